import Derived.Test.YtahmokchdhengaaGreatDoorOD
import Derived.Defers
import Derived.Recover
import Derived.Test.YtahmokchdhengaaGreatDoorTR
import Derived.Test.YtahmokchdhengaaGreatDoorVB
import Derived.Test.YtahmokchdhengaaGreatDoorPR
set_option linter.unusedVariables false
set_option maxRecDepth 100000
set_option maxHeartbeats 1000000
set_option linter.defProp false
namespace Go.Proofs.YtahmokchdhengaaGreatDoor
open Go renaming World->J,Calls->aj,Program->aw,Value->aa,TypeId->aD
open Go.IntKind renaming wrap->aG
open _root_.Int renaming toNat->a1,tdiv->eP,tmod->eY,toNat_natCast->bZ
open _root_.ByteArray renaming mk->bj
open Go.IntWalk renaming i64_in->bm
open _root_.Bool renaming and_eq_true->a9,not_eq_true->iX
open _root_.Nat renaming le_refl->be,le_trans->bp,zero_le->dc
open _root_.UInt8 renaming ofNat->dw
open Go.Region renaming wanted->b3
open Go.Proofs.Tryz renaming prog->U
open _root_.Decidable renaming decide->ao
open Go.Ending renaming returned->ae
open List renaming mem_append->aL,mem_cons->aE,not_mem_nil->aZ,mem_of_getElem?->aB,getElem?_eq_getElem->a5,getElem?_eq_some_iff->cr,mem_append_left->bz,mem_append_right->b0,mem_flatMap->bB,mem_map->cz,length_append->b',length_cons->cT,append_assoc->hr,mem_singleton->bX,length_take->fx,length_drop->e8,flatMap_append->cC,flatMap_cons->df,nodup_append->dL,mem_cons_of_mem->cH,mem_cons_self->me,length_map->mb,drop_eq_getElem_cons->dk,getElem?_map->qG,all_eq_true->dK,append_nil->cP,cons_append->sW,take_add_one->g3,map_append->dX,map_cons->iQ,drop_of_length_le->de,take_of_length_le->dM,drop_left->yM
open Go Go.W
section
variable {M:Nat->Prop} {w0 w V:J} {L1 wB R D D':List En}
def qk(H:O M w0 w (L1++R) D):O (·∈L1.flatMap (·.fp)) w w L1 D:=by refine O.og _ _ (λd e=>⟨H.own d (bz _ e),λb h=>bB.2 ⟨d,e,h⟩⟩) ?_ (λd e=>⟨H.rd d e,λb h j k=>H.dj d e b h j (bz _ k)⟩);have:=H.nd;rw[cC,dL]at this;exact this.1
def sj(H:O M w0 w (L1++R) D)(k:O (·∈L1.flatMap (·.fp)) w V wB (D++D'))(P:∀y∈D',∀b∈y.fp,w.heap.size<=b\/∃g∈D,b∈g.fp):O M w0 V (wB++R) (D++D'):=by
 have C:=H.nd;rw[cC,dL]at C;have F:∀e∈R,∀b∈e.fp,b∉L1.flatMap (·.fp):=λe d b h q=>C.2.2 b q b (bB.2 ⟨e,d,h⟩) rfl;have I:∀e∈R,∀b∈e.fp,b<w.heap.size:=λe d b h=>e.lt w (H.own e (b0 _ d)) b h;have T:Fr M w0 V:=H.fr.trans k.fr λz K q=>by obtain⟨e,d,h⟩:=bB.1 q;exact(H.new e (bz _ d) z h).resolve_left (by omega)
 refine⟨T,λe d=>?_,k.rd,λe d b h=>?_,?_,λy x b h e d q=>?_⟩
 .rcases aL.1 d with d|d
  .exact k.own e d
  .exact e.st w V (λb h G=>k.fr.ck b G (F e d b h)) (H.own e (b0 _ d))
 .rcases aL.1 d with d|d
  .rcases k.new e d b h with j|j
   .exact .inl (bp H.fr.size j)
   .obtain ⟨A,S,B⟩:=bB.1 j;exact H.new A (bz _ S) b B
  .exact H.new e (b0 _ d) b h
 .rw [cC,dL];refine⟨k.nd,C.2.1,λz K Z Y e=>?_⟩;subst e;obtain⟨L,N,Q⟩:=bB.1 K;obtain⟨A,E,B⟩:=bB.1 Y;rcases k.new L N z Q with j|j
  .have:=I A E z B;omega
  .exact F A E z B j
 .rcases aL.1 d with d|d
  .exact k.dj y x b h e d q
  .have G:=I e d b q;rcases aL.1 x with x|x
   .exact H.dj y x b h e (b0 _ d) q
   .rcases P y x b h with j|⟨g,W,j⟩
    .omega
    .exact H.dj g W b j e (b0 _ d) q
def yZ{e:En}{rb:Nat}(H:O M w0 w (e::L1) D)(x:e.fp=[rb]):gu w rb (L1++D):=λh d=>by
 rcases aL.1 d with d|d
 .refine ⟨H.own h (cH _ d),λq k j=>?_⟩;have:=H.nd;rw[df,dL]at this;exact this.2.2 rb (by rw[x];simp) q (bB.2 ⟨h,d,k⟩) j.symm
 .exact ⟨H.rd h d,λq k j=>H.dj h d q k e me (by rw[x,j];simp)⟩
end
def pX(c:hf):List aa:=[.i c.k,.string (ba c.nm),.i c.st.k,.i c.st.n,.i c.st.x,.i c.nd,.i c.n]
def gJ(l:List hf):List aa:=l.flatMap pX
def GY(l:List hf):(gJ l).length=l.length *7:=nJ pX 7 (λ_=>rfl) l
structure k9 where
 X:RC
 Ms:List (List UInt8×(Sl×PM))
 l:List Nd
 e1:Array MapEntry
 c1:Nat
 e2:Array MapEntry
 c2:Nat
abbrev ch(d:k9)(x:cJ):List En:=[bf d.X x.s,.ob d.X.mv (.map d.e1 d.c1),.ob d.X.mm (.map d.e2 d.c2),.row iW 7 d.X.cs (gJ x.cs)]
structure gG(T:List aR)(Y:k9)(x:cJ)(D:List En):Prop where
 tk:mE Y.X T D
 mo:∃es c,En.ob Y.X.mo (.map es c)∈D/\eG es qB
 kc:cO∈D
 gr:fo Y.X Y.l x.s D
 pr:∀q∈Y.Ms,En.a7 4 q.2.1 (eM q.2.2.ps)∈D
 ms:x.ms=Y.Ms.map λq=>(q.1,q.2.2)
 sv:eG Y.e1 (x.vs.map hS)
 sm:eG Y.e2 (Y.Ms.map oV)
 pm:Y.X.pm=none
 kn:Y.X.kn=9223372036854775807
 dp:Y.X.dp=0
 ok:ei (l4 T x) x.s.g
 p:x.s.p<T.length
 tm:x.s.tm<=65536
 mc:x.ms.length<=x.s.p
 cc:x.cs.length<=x.s.p
section
variable {T:List aR} {Y:k9} {x:cJ} {D D':List En}
def gG.en(d:gG T Y x D)(j:∀q∈D,q∈D')(w:En.ob Y.X.mv (.map Y.e1 Y.c1)∈D')(y:En.ob Y.X.mm (.map Y.e2 Y.c2)∈D'):gq Y.X (l4 T x) Y.Ms D':=by
 obtain⟨h,c,m,k⟩:=d.mo;refine⟨⟨j _ d.tk.t,d.tk.e⟩,⟨h,c,j _ m,k⟩,⟨_,_,w,d.sv⟩,⟨_,_,y,d.sm⟩,d.ms,λk z=>j _ (d.pr k z),?_,d.kn,d.dp,j _ d.kc⟩;show match Y.X.pm with
  |none=>([]:List (List UInt8×Nat))=[]
  |some b=>∃h c,En.ob b (.map h c)∈D'/\eG h ((([]:List (List UInt8×Nat))).map hS)
 rw[d.pm]
def gG.mv(e:gG T Y x D){s':aI}(m:Mv T x.s s'):gG T Y {x with s:=s'} D:=by
 have k:=m.p;have h:=e.mc;have j:=e.cc;exact⟨e.tk,e.mo,e.kc,⟨e.gr.d,e.gr.x.trans m.g.symm,m.g▸e.gr.v,by rw[m.g];exact e.gr.n⟩,e.pr,e.ms,e.sv,e.sm,e.pm,e.kn,e.dp,by
  have:=e.ok;exact⟨this.T,by rw[m.g];exact this.vs,by rw[m.g];exact this.pm,this.ms⟩,m.l,by show s'.tm<=65536;rw[m.t];exact e.tm,by show x.ms.length<=s'.p;omega,by show x.cs.length<=s'.p;omega⟩
def gG.grow(d:gG T Y x D){s':aI}(m:iZ T x.s s'){q:Sl}{w:List Nd}(A:fo {Y.X with g:=q} w s' D')(j:∀y∈D,y∈D'):gG T {Y with X:={Y.X with g:=q},l:=w} {x with s:=s'} D':=by have G:=m.p;have E:=d.mc;have F:=d.cc;obtain⟨z,c,C,k⟩:=d.mo;have h:=d.ok.up m.len;exact⟨⟨j _ d.tk.t,d.tk.e⟩,⟨z,c,j _ C,k⟩,j _ d.kc,A,λk B=>j _ (d.pr k B),d.ms,d.sv,d.sm,d.pm,d.kn,d.dp,⟨h.T,h.vs,h.pm,h.ms⟩,m.l,m.t.2,by show x.ms.length<=s'.p;omega,by show x.cs.length<=s'.p;omega⟩
def jL{α:Type}{q:PR α}{y:cJ}{f:α->cJ->SR}{e:Int}{p:Nat}(d:q=.er e p):q.s y f=.er e p:=by subst d;rfl
def iS{α:Type}{q:PR α}{y:cJ}{f:α->cJ->SR}{a:α}{s:aI}(d:q=.ok a s):q.s y f=f a {y with s:=s}:=by subst d;rfl
def hV(T:List aR)(Y:k9)(x:cJ)(D:List En)(w:J)(q:SR):aC:=λr e=>match q with
 |.ok h=>r=ae (.tuple #[])/\∃d D',d.X.rb=Y.X.rb/\O (·∈(ch Y x).flatMap (·.fp)) w e (ch d h) (D++D')/\gG T d h (D++D')/\(∀j∈D',∀b∈j.fp,w.heap.size<=b\/∃g∈D,b∈g.fp)
 |.er k p=>r=.panicked (hl k p)/\Fr (·∈(ch Y x).flatMap (·.fp)) w e
def tc{w V:J}{q:SR}{y:cJ}{Y':k9}{D':List En}(e:q=.ok y)(h:Y'.X.rb=Y.X.rb)(j:O (·∈(ch Y x).flatMap (·.fp)) w V (ch Y' y) (D++D'))(k:gG T Y' y (D++D'))(z:∀d∈D',∀b∈d.fp,w.heap.size<=b\/∃g∈D,b∈g.fp):hV T Y x D w q (ae (.tuple #[])) V:=by subst e;exact⟨rfl,Y',D',h,j,k,z⟩
def gS{w V:J}{q:SR}{e:Int}{p:Nat}(d:q=.er e p)(f:Fr (·∈(ch Y x).flatMap (·.fp)) w V):hV T Y x D w q (.panicked (hl e p)) V:=by subst d;exact⟨rfl,f⟩
def Ef{M:Nat->Prop}{w0 w:J}{R:List En}{bs:List Nat}(H:O M w0 w (ch Y x++R) D){q:SR}{P:aw}{f:FuncId}{args:Array aa}{A K:aC}(Q:O (·∈(ch Y x).flatMap (·.fp)) w w (ch Y x) D->aj P f args w (hV T Y x D w q))(ab:∀j e D' V,q=.ok j->e.X.rb=Y.X.rb->O M w0 V (ch e j++R) (D++D')->gG T e j (D++D')->(∀y∈D',∀b∈y.fp,w0.heap.size<=b\/∃g∈D,b∈g.fp)->K (ae (.tuple #[])) V)(Z:∀k p V,q=.er k p->Fr M w0 V->A (.panicked (hl k p)) V)(E:∀b∈bs,En.g b∈R:=by simp):lf bs P f args A w K:=by
 have F:=H.nd;rw[cC,dL]at F;refine(Q (qk H)).mono λr V d=>?_;unfold hV at d;have kp:∀{V:J},Fr (·∈(ch Y x).flatMap (·.fp)) w V->kept bs w V:=λf b h=>f.ck b ((En.g b).lt w (H.own (.g b) (b0 _ (E b h))) b (by simp[En.g])) λz=>F.2.2 b z b (bB.2 ⟨.g b,E b h,by simp[En.g]⟩) rfl;split at d
 .rename_i j;obtain⟨rfl,e,D',I,B,L,C⟩:=d;exact .inr ⟨⟨_,rfl⟩,kp B.fr,ab j e D' V rfl I (sj H B C) L λy S b h=>(C y S b h).imp (λd=>bp H.fr.size d) id⟩
 .rename_i k p;obtain⟨rfl,f⟩:=d;refine .inl ⟨_,rfl,Z k p V rfl (H.fr.trans f λb h z=>?_)⟩;obtain⟨G,W,N⟩:=bB.1 z;exact(H.new G (bz _ W) b N).resolve_left (by omega)
def QO{s s':aI}{n:Nx}{t:aR}{k:Nat}(d:eR s n t=.ok k s'):s'.p=s.p:=by
 unfold eR at d;split at d
 .cases d;rfl
 .cases d
def yq{E:bS}{s s':aI}{t:aR}(h:vl E s=.ok t s'):bM E.T 2 s=.ok t s'/\lk E.vs t.text=none/\lk E.ms t.text=none:=by
 obtain⟨q,k,j,d⟩:=cL h;split at d
 .cases d
 .rename_i e;cases d;simp only[Bool.or_eq_true,not_or,iX,Option.isSome_eq_false_iff,Option.isNone_iff_eq_none]at e;exact⟨j,e.1,e.2⟩
def Qc(vs:List (List UInt8×Nat))(t:List UInt8):kS (vs.map hS) (ba t)=(lk vs t).map λn=>Value.i ((n:Nat):Int):=by rw[show vs.map hS=vs.map λd=>(ba d.1,(λn:Nat=>Value.i (n:Int)) d.2)from rfl,mh λn:Nat=>Value.i (n:Int)]
def GX{M:Nat->Prop}{w0 w:J}{R:List En}{bs:List Nat}(H:O M w0 w (ch Y x++R) D)(h:gG T Y x D)(c:hf)(P:x.cs.length+1<=x.s.p)(W:x.cs.length<=100000){K:J->Prop}(E:∀b∈bs,En.g b∈R)(Q:∀B F,B.X.rb=Y.X.rb->O M w0 F (ch B {x with cs:=x.cs++[c]}++R) D->gG T B {x with cs:=x.cs++[c]} D->K F):
  ∃t:Sl,w.cell? ((ad Y.X.rb).add 3)=some t.v/\cS w (.cells #[.i c.k,.string (ba c.nm),.i c.st.k,.i c.st.n,.i c.st.x,.i c.nd,.i c.n] iW) λq=>q.cell? ((ad Y.X.rb).add 3)=some t.v/\
   ∃(t2:Sl) (j:J),Sem.run U (Builtin.append_ #[zy,zy] zy #[t.v,.slice (some (nb w)) 1 1]) q=.ok t2.v j/\kept bs q j/\aJ j ((ad Y.X.rb).add 3) t2.v λy=>kept bs j y/\K y:=by
 have N:∀b∈bs,En.g b∈ch Y x++R:=λb C=>b0 _ (E b C);refine⟨Y.X.cs,H.ld 0 3,H.sI λq _ z S=>?_⟩;have V:Y.X.cs.n=x.cs.length:=by have L:=(show aK q iW 7 Y.X.cs (gJ x.cs)from z.get 3).len;rw[GY]at L;omega
 refine⟨z.ld 0 3,z.eb 3 Tn (s:=Y.X.cs) (src:=⟨some (ad w.heap.size),1,1⟩) (news:=pX c) rfl ⟨rfl,be _,(uc (sz:=7) S rfl).2.2⟩ (by simp[pX,Value.oneCell']) (by show(Y.X.cs.n+1) *64<=_;omega) (λt2 j A=>?_) N⟩;have A:O M w0 j ([bf Y.X x.s,.ob Y.X.mv (.map Y.e1 Y.c1),.ob Y.X.mm (.map Y.e2 Y.c2),.row iW 7 t2 (gJ x.cs++pX c)]++R) D:=A;refine A.gT 0 3 rfl (λy G=>?_) (by simp) (λb C=>b0 _ (E b C));refine Q {Y with X:={Y.X with cs:=t2}} y rfl ?_ ?_
 .have I:gJ (x.cs++[c])=gJ x.cs++pX c:=by unfold gJ;rw[cC];simp
  show O M w0 y ([_,_,_,.row iW 7 t2 (gJ (x.cs++[c]))]++R) D;rw[I];exact G
 .exact ⟨⟨h.tk.t,h.tk.e⟩,h.mo,h.kc,⟨h.gr.d,h.gr.x,h.gr.v,h.gr.n⟩,h.pr,h.ms,h.sv,h.sm,h.pm,h.kn,h.dp,⟨h.ok.T,h.ok.vs,h.ok.pm,h.ok.ms⟩,h.p,h.tm,h.mc,by show(x.cs++[c]).length<=x.s.p;rw[b'];exact P⟩
end
def EX{M:Nat->Prop}{w0 w V:J}{L D:List En}{bs:List Nat}(H:O M w0 w L D)(i:Nat){b:Nat}{o:Obj}(hi:L[i]? =some (.ob b o))(f:Fr (λd=>d=b) w V)(j:∀d∈bs,En.g d∈L.eraseIdx i:=by simp):kept bs w V:=λd k=>by have h:=j d k;refine f.ck d ((En.g d).lt w (H.own (.g d) (su h)) d (by simp[En.g])) λe=>?_;exact uL (f:=λe:En=>e.fp) hi H.nd b (by simp[En.ob]) (.g d) h (by simp[En.g,e])
def Ev{M:Nat->Prop}{w0 w:J}{L D:List En}{bs:List Nat}(H:O M w0 w L D)(i:Nat){b:Nat}{vs:List aa}{T:aD}{v:aa}{K:J->Prop}(hi:L[i]? =some (.c b vs T))(h:∀d,O M w0 d (L.set i (.c b (vs.set 0 v) T)) D->K d)(k:0<vs.length:=by simp)(j:∀b∈bs,En.g b∈L:=by simp):
  aJ w (ad b) v λe=>kept bs w e/\K e:=by
 have:=H.gT (v:=v) (K:=K) i 0 hi h k j
 rwa[iz]at this
def lA{M:Nat->Prop}{w0 w:J}{L j D:List En}(H:O M w0 w L D)(h:L.Perm j):O M w0 w j D:=
 ⟨H.fr,λd e=>H.own d (h.mem_iff.2 e),H.rd,λd e=>H.new d (h.mem_iff.2 e),(List.Perm.nodup_iff (List.Perm.flatMap_right _ h)).1 H.nd,λk x b q d e=>H.dj k x b q d (h.mem_iff.2 e)⟩
section
variable {T:List aR} {Y:k9} {x:cJ} {D:List En}
def Xr(h:gG T Y x D){w:J}(H:O (·∈(ch Y x).flatMap (·.fp)) w w (ch Y x) D)(al:x.cs.length<=100000)(t:aR):aj U CA #[.pointer (some (ad Y.X.rb)),kY t] w (hV T Y x D w (ur T t x)):=by
 have L:=h.ok.T;have j:ur T t x=(vl (l4 T x) x.s).s x λu x=>(ic T x.s).s x λq x=>(bM T 1 x.s).s x λ_ x=>(eR x.s ⟨0,[],0,0,0,ba u.text,q⟩ t).s x λn x=>
  .ok {x with vs:=x.vs++[(u.text,n)],cs:=x.cs++[⟨0,u.text,q,n,0⟩]}:=rfl
 refine MP.au _ _ _ _ w _ (H.ay λb3 w1 P=>ew P 0 rfl (Nu (P.get 0) (yZ P rfl) (h.en (λy E=>b0 _ E) (by simp) (by simp)) h.p) (λu s1 w2 ac Q=>⟨_,_,_,rfl,?_⟩) (λy p w' er f=>gS (j.trans (jL er)) f));have j:=j.trans (iS ac);obtain⟨n1,n2,n3⟩:=yq ac;have M:=dW L h.p (by decide) n1;refine ew Q 0 rfl (DR (Q.get 0) (cF Q (i:=0) rfl rfl) h.tk M.l) (λq s2 w3 I H3=>⟨_,_,_,rfl,H3.ay λb5 w4 H4=>H4.af λw5 S=>ew S 0 rfl (hO (S.get 0) (cF S (i:=0) rfl rfl) h.tk (th L M.l I).1.l) (λcl s3 w6 e3 H6=>⟨_,_,_,rfl,?_⟩) (λy p w' er f=>gS ((j.trans (iS I)).trans (jL er)) f)⟩) (λy p w' er f=>gS (j.trans (jL er)) f);have j:=(j.trans (iS I)).trans (iS e3);have m2:=(th L M.l I).1;have m3:=dW L m2.l (by decide) e3;have hm:=M.tr (m2.tr m3);have B:=h.mv hm;have V:=H6.ek (cg ⟨⟨0,[],0,0,0,ba u.text,q⟩,⟨none,0,0⟩⟩) (Fr.refl _ _) (Rd.nil _) (λb C=>by cases C);have up:∀y∈D,y∈D++[cg ⟨⟨0,[],0,0,0,ba u.text,q⟩,⟨none,0,0⟩⟩]:=λy E=>bz _ E;refine kX (X:=Y.X) V 0 rfl (up _ h.gr.d) (yO (t:=t) (d:=⟨⟨0,[],0,0,0,ba u.text,q⟩,⟨none,0,0⟩⟩) (V.get 0) (cF V (i:=0) rfl rfl) (B.gr.sub up) (up _ h.kc) (b0 _ (bX.2 rfl)) ⟨by simp,(⟨by omega,by omega⟩:dx 0),(⟨by omega,by omega⟩:dx 0),Int.le_refl _,λZ=>by cases Z⟩) (λk N z A v w8 W hv hG C G=>?_) (λy p w' er f=>gS (j.trans (jL er)) f);subst hv;have j:=j.trans (iS W);obtain⟨q1,q2⟩:=tX B.gr.v B.p B.tm W;have q3:N.p=s3.p:=QO W;refine⟨_,rfl,_,G.ld 0 5,?_⟩;obtain⟨w9,K,u1,u2,u3,u4,_⟩:=tD sw (G.ob 1) h.sv (ba u.text) (.i (k:Int)) (by rw[Qc];have n2:lk x.vs u.text=none:=n2;rw[n2];rfl);have H9:=G.fC 1 (.ob Y.X.mv (.map K (Y.c1+1))) rfl (u4.mono λx _ y=>by simp[En.ob,y]) u2 (λb C=>.inl C);refine⟨w9,u1,EX G 1 rfl u4,H9.af λam ab=>?_⟩;have eD:D++[cg ⟨⟨0,[],0,0,0,ba u.text,q⟩,⟨none,0,0⟩⟩]++[En.gr z A]=D++[cg ⟨⟨0,[],0,0,0,ba u.text,q⟩,⟨none,0,0⟩⟩,En.gr z A]:=by simp
 rw[eD]at ab hG;have e:=B.grow q1 hG (λy E=>bz _ E);have ak:gG T {Y with X:={Y.X with g:=z},l:=A,e1:=K,c1:=Y.c1+1} {x with s:=N,vs:=x.vs++[(u.text,k)]} (D++[cg ⟨⟨0,[],0,0,0,ba u.text,q⟩,⟨none,0,0⟩⟩,En.gr z A]):=by
  refine⟨e.tk,e.mo,e.kc,e.gr,e.pr,e.ms,?_,e.sm,e.pm,e.kn,e.dp,⟨e.ok.T,λae F=>?_,e.ok.pm,e.ok.ms⟩,e.p,e.tm,e.mc,e.cc⟩
  .show eG K ((x.vs++[(u.text,k)]).map hS);rw[dX];exact u3
  .rcases aL.1 (show ae∈x.vs++[(u.text,k)]from F)with F|F
   .exact e.ok.vs ae F
   .rw [bX.1 F];exact q2
 have ag:O (·∈(ch Y x).flatMap (·.fp)) w am (ch {Y with X:={Y.X with g:=z},l:=A,e1:=K,c1:=Y.c1+1} {x with s:=N,vs:=x.vs++[(u.text,k)]}++[.g b3,.g b5]) (D++[cg ⟨⟨0,[],0,0,0,ba u.text,q⟩,⟨none,0,0⟩⟩,En.gr z A]):=ab;refine GX ag ak ⟨0,u.text,q,k,0⟩ ?_ al (by simp) λY' ao hy ah ai=>?_
 .have h1:=hm.p;have h2:=h.cc;show x.cs.length+1<=N.p;omega
 .refine tc j hy (ah.take 4) ai λan hd b aa=>?_;rcases aE.1 hd with rfl|hd
  .cases aa
  .rw [bX.1 hd]at aa;exact(C b aa).elim (λZ=>.inr ⟨_,h.gr.d,Z⟩) .inl
def DC(j:iy T):∀(f:Nat) (ps h:List (List UInt8×aU)) (s s':aI),s.p<T.length->(ps.map (·.1)).Nodup->ps.length<=s.p->m3 T f ps s=.ok h s'->Mv T s s'/\(h.map (·.1)).Nodup/\h.length<=s'.p
 |0,ps,h,s,s',_,_,_,d=>by cases d
 |f+1,ps,h,s,s',w,e,S,d=>by
  have d:(if(aW T s.p).kind=1 then PR.ok ps (cK (aW T s.p) s)else if(aW T s.p).kind≠0 then jl (aW T s.p)else
    (bM T 2 (cK (aW T s.p) s)).b λp s=>if(lk ps p.text).isSome then .er 8 p.a3 else(ic T s).b λq s=>(bM T 1 s).b λ_ s=>m3 T f (ps++[(p.text,q)]) s)=.ok h s':=d
  split at d
  .rename_i H;cases d;have m:=rq j w (by omega);have:=m.p;exact⟨m,e,by omega⟩
  split at d
  .cases d
  .rename_i H G;have m:=rq j w (by simp at G;omega);obtain⟨p,V,D,d⟩:=cL d;have x:=dW j m.l (by decide) D;split at d
   .cases d
   .rename_i M;obtain⟨q,W,E,d⟩:=cL d;obtain⟨Q,s3,F,d⟩:=cL d;have y:=(th j x.l E).1;have z:=dW j y.l (by decide) F;have A:=m.tr (x.tr (y.tr z));have B:=A.p;obtain⟨a,b,c⟩:=DC j f (ps++[(p.text,q)]) h s3 s' z.l (by
     rw[dX,dL];refine⟨e,by simp,λY N P k=>?_⟩;have k:P=p.text:=by simpa using k
     subst k;rintro rfl;have:lk ps p.text=none:=by simpa using M
     obtain⟨B,L,C⟩:=cz.1 N;have K:∀{l:List (List UInt8×aU)},B∈l->lk l p.text≠none:=λ{l}=>by
      induction l with
      |nil=>intro d;cases d
      |cons a l O=>
       intro d e;unfold lk at e;split at e
       .cases e
       .rename_i I;rcases aE.1 d with rfl|d
        .exact I C
        .exact O d e
     exact K L this) (by rw[b'];simp;omega) d
    exact⟨A.tr a,b,c⟩
def El(h:iy T):∀(f d:Nat) (s s':aI),s.p<T.length->mi T f d s=.ok () s'->Mv T s s'
 |0,d,s,s',_,e=>by cases e
 |f+1,d,s,s',k,e=>by
  have e:(if(aW T s.p).kind=6 then jl (aW T s.p)else if(aW T s.p).kind=1/\d=0 then jl (aW T s.p)else
    if(if(aW T s.p).kind=0 then d+1 else if(aW T s.p).kind=1 then d - 1 else d)=0 then PR.ok () (cK (aW T s.p) s)else mi T f (if(aW T s.p).kind=0 then d+1 else if(aW T s.p).kind=1 then d - 1 else d) (cK (aW T s.p) s))=.ok () s':=e
  split at e
  .cases e
  rename_i j;have m:=rq h k j;split at e
  .cases e
  generalize(if(aW T s.p).kind=0 then d+1 else if(aW T s.p).kind=1 then d - 1 else d)=d' at e;split at e
  .cases e;exact m
  .exact m.tr (El h f _ _ s' m.l e)
def V2(d:List (List UInt8×(Sl×PM)))(t:List UInt8):kS (d.map oV) (ba t)=(lk d t).map mW:=by rw[show d.map oV=d.map λe=>(ba e.1,mW e.2)from rfl,mh mW]
end
def W8{D D':List En}{w:J}(d e:En)(k:∀b∈d.fp,w.heap.size<=b)(q:∀b∈e.fp,w.heap.size<=b):∀g∈[d,e],∀b∈g.fp,w.heap.size<=b\/∃g∈D,b∈g.fp:=λg j b h=>by
 rcases aE.1 j with rfl|j
 .exact .inl (k b h)
 .rw [bX.1 j]at h;exact .inl (q b h)
section
variable {T:List aR} {Y:k9} {x:cJ} {D:List En}
def Xt(d:gG T Y x D){w:J}(H:O (·∈(ch Y x).flatMap (·.fp)) w w (ch Y x) D):aj U CB #[.pointer (some (ad Y.X.rb))] w (hV T Y x D w (uu T x)):=by
 have S:=d.ok.T;have aU:=S.l;have y:uu T x=(bM T 0 x.s).s x λ_ x=>(vl (l4 T x) x.s).s x λt x=>if l7 t.text then .er 6 t.a3 else
  (m3 T (T.length+1) [] x.s).s x λq x=>(mi T (T.length+1) 0 x.s).s x λ_ aG=>(bM T 1 aG.s).s aG λ_ aH=>
  .ok {aH with ms:=aH.ms++[(t.text,⟨q,x.s.p,x.ms.length⟩)]}:=rfl
 refine MQ.au _ w _ (H.nw λw1 hz H1=>?_);have I:=H1.freeze 4 (.c w.heap.size [.pointer (some (ad Y.X.rb))] mx) rfl (H1.get 4) (λb h=>h);have I:O (·∈(ch Y x).flatMap (·.fp)) w w1 (ch Y x) (D++[.c w.heap.size [.pointer (some (ad Y.X.rb))] mx]):=I;clear H1;obtain⟨pE,aq⟩:∃pE,pE=En.c w.heap.size [.pointer (some (ad Y.X.rb))] mx:=⟨_,rfl⟩;obtain⟨A,am⟩:∃A,A=D++[pE]:=⟨_,rfl⟩;have C:En.c w.heap.size [.pointer (some (ad Y.X.rb))] mx∈A:=by rw[am,aq];simp
 have I:O (·∈(ch Y x).flatMap (·.fp)) w w1 (ch Y x) A:=by rw[am,aq];exact I
 have up:∀z∈D,z∈A:=λz Q=>by rw[am];exact bz _ Q
 have aa:gG T Y x A:=by obtain⟨es,c,m1,B⟩:=d.mo;exact⟨⟨up _ d.tk.t,d.tk.e⟩,⟨es,c,up _ m1,B⟩,up _ d.kc,d.gr.sub up,λB k=>up _ (d.pr B k),d.ms,d.sv,d.sm,d.pm,d.kn,d.dp,d.ok,d.p,d.tm,d.mc,d.cc⟩
 refine⟨_,gX (I.rd _ C),ew (bs:=[]) I 0 rfl (hO (I.get 0) (cF I (i:=0) rfl rfl) aa.tk d.p) (λo s1 w2 aA H2=>⟨_,_,_,rfl,?_⟩) (λz p V er f=>gS (y.trans (jL er)) f)⟩;have y:=y.trans (iS aA);have m1:=dW S d.p (by decide) aA;have aD:=aa.mv m1;refine⟨_,gX (H2.rd _ C),ew (bs:=[]) H2 0 rfl (Nu (H2.get 0) (yZ H2 rfl) (aD.en (λz Q=>b0 _ Q) (by simp) (by simp)) aD.p) (λt s2 w3 aC H3=>⟨_,_,_,rfl,H3.ay λM w4 H4=>H4.af λw5 H5=>⟨_,gX (H5.rd _ C),?_⟩⟩) (λz p V er f=>gS (y.trans (jL er)) f)⟩;have y:=y.trans (iS aC);obtain⟨n1,n2,n3⟩:=yq aC;have n2:lk x.vs t.text=none:=n2;have n3:lk x.ms t.text=none:=n3;have m2:=m1.tr (dW S m1.l (by decide) n1);have ao:=aa.mv m2;refine H5.av (Ns (H5.get 0) (yZ H5 rfl) (ao.en (λz Q=>b0 _ Q) (by simp) (by simp)) t.text) ?_;rintro _ G rfl E;refine⟨_,rfl,bh (λho=>⟨_,gX (E.rd _ C),fI E (iR _ 6 t G) λV f=>gS (y.trans (ag ho)) f⟩) (λho=>?_)⟩;have y:=y.trans (ab (by rw[ho];simp));have aJ:Y.Ms.length=x.ms.length:=by rw[d.ms];simp
 have hlen:=Vj (ty:=bn) xY (E.ob 2) d.sm;rw[mb,aJ]at hlen;have E:O (·∈(ch Y x).flatMap (·.fp)) w G (ch Y {x with s:=s2}++[.g M]) A:=E;refine⟨_,gX (E.rd _ C),_,E.ld 0 6,_,hlen,E.nw λw7 aY H7=>Ev H7 5 rfl (λw8 H8=>H8.gT 5 1 rfl (λw9 H9=>H9.gT 5 2 rfl (λW K=>?_)))⟩;have K:O (·∈(ch Y x).flatMap (·.fp)) w W [bf Y.X s2,.ob Y.X.mv (.map Y.e1 Y.c1),.ob Y.X.mm (.map Y.e2 Y.c2),.row iW 7 Y.X.cs (gJ x.cs),.g M,.c G.heap.size [.slice none 0 0,.i 0,.i ((x.ms.length:Nat):Int)] il] A:=K;have ax:O (·∈(ch Y x).flatMap (·.fp)) w W ([bf Y.X s2,.c G.heap.size [.slice none 0 0,.i 0,.i ((x.ms.length:Nat):Int)] il]++[.ob Y.X.mv (.map Y.e1 Y.c1),.ob Y.X.mm (.map Y.e2 Y.c2),.row iW 7 Y.X.cs (gJ x.cs),.g M]) A:=lA K (.cons _ (List.perm_append_singleton _ [_,_,_,_]));have aP:=Xx (X:=Y.X) (T:=T) (ix:=((x.ms.length:Nat):Int)) (qk ax) C ao.tk ao.p;refine aP.mono λr aF k=>?_;have kp:∀{V:J},Fr (·∈[Y.X.rb,G.heap.size]) W V->kept [M] W V:=λf b h=>by
  have h:b=M:=by simpa using h
  subst h;refine f.ck b ((En.g b).lt W (K.own (.g b) (by simp)) b (by simp[En.g])) λF=>?_;rcases aE.1 F with rfl|F
  .exact i5 K.nd (i:=4) (j:=0) rfl rfl (by decide) Y.X.rb (by simp[En.g]) (by simp[En.ob])
  .rw [bX]at F;subst F;exact i5 K.nd (i:=4) (j:=5) rfl rfl (by decide) G.heap.size (by simp[En.g]) (by simp[En.ob])
 unfold wE at k;split at k
 case h_2 z p ex=>
  obtain⟨rfl,f⟩:=k;refine .inl ⟨_,rfl,gS (y.trans (jL ex)) (K.fr.trans f λb h F=>?_)⟩;rcases aE.1 F with rfl|F
  .exact bB.2 ⟨bf Y.X x.s,by simp,by simp[En.ob]⟩
  .rw [bX]at F;subst F;have:=E.fr.size;omega
 case h_1 q s3 ex=>
 obtain⟨rfl,sl,Z⟩:=k;refine .inr ⟨⟨_,rfl⟩,kp Z.fr,?_⟩;have y:=y.trans (iS ex);obtain⟨aR,aO,aW⟩:=DC S _ _ _ _ _ m2.l (by simp) (dc _) ex;have ac:=m2.tr aR;have az:O (·∈(ch Y x).flatMap (·.fp)) w aF ([bf Y.X s3,.c G.heap.size [sl.v,.i 0,.i ((x.ms.length:Nat):Int)] il,.row k0 4 sl (eM q)]++[.ob Y.X.mv (.map Y.e1 Y.c1),.ob Y.X.mm (.map Y.e2 Y.c2),.row iW 7 Y.X.cs (gJ x.cs),.g M]) (A++[]):=sj ax (by rw[cP];exact Z) (λaT hd=>by cases hd);rw[cP]at az;have an:O (·∈(ch Y x).flatMap (·.fp)) w aF [bf Y.X s3,.ob Y.X.mv (.map Y.e1 Y.c1),.ob Y.X.mm (.map Y.e2 Y.c2),.row iW 7 Y.X.cs (gJ x.cs),.c G.heap.size [sl.v,.i 0,.i ((x.ms.length:Nat):Int)] il,.row k0 4 sl (eM q),.g M] A:=lA az (.cons _ (List.perm_append_comm_assoc [_,_] [_,_,_] [_]));refine⟨rfl,_,gX (an.rd _ C),_,an.ld 0 1,an.gT 4 1 rfl (λaZ ah=>⟨_,gX (ah.rd _ C),ew ah 0 rfl (XA (ah.get 0) (cF ah (i:=0) rfl rfl) aa.tk ac.l) (λu s4 a0 e4 ai=>⟨rfl,_,gX (ai.rd _ C),?_⟩) (λz p V er f=>gS (y.trans (jL er)) f)⟩)⟩;have y:=y.trans (iS e4);have aS:=El S _ _ _ _ ac.l e4;have m4:=ac.tr aS;refine ew ai 0 rfl (hO (ai.get 0) (cF ai (i:=0) rfl rfl) aa.tk m4.l) (λcl s5 a1 e5 aI=>⟨_,_,_,rfl,aI.af λa2 L=>⟨_,gX (L.rd _ C),_,L.ld 0 6,sl,((s3.p:Nat):Int),((x.ms.length:Nat):Int),L.ld 4 0,L.ld 4 1,L.ld 4 2,?_⟩⟩) (λz p V er f=>gS (y.trans (jL er)) f);have y:=y.trans (iS e5);have m5:=m4.tr (dW S m4.l (by decide) e5);obtain⟨ar,al,u1,u2,u3,u4,_⟩:=tD xY (L.ob 2) d.sm (ba t.text) (mW (sl,⟨q,s3.p,x.ms.length⟩)) (by
  rw[V2];rw[d.ms,xQ (λB:Sl×PM=>B.2)]at n3;cases N:lk Y.Ms t.text with
  |none=>rfl
  |some B=>rw[N]at n3;cases n3)
 have ak:=L.fC 2 (.ob Y.X.mm (.map al (Y.c2+1))) rfl (u4.mono λx _ z=>by simp[En.ob,z]) u2 (λb h=>.inl h);refine⟨ar,u1,EX L 2 rfl u4,?_⟩;have ak:O (·∈(ch Y x).flatMap (·.fp)) w ar [bf Y.X s5,.ob Y.X.mv (.map Y.e1 Y.c1),.ob Y.X.mm (.map al (Y.c2+1)),.row iW 7 Y.X.cs (gJ x.cs),.c G.heap.size [sl.v,.i ((s3.p:Nat):Int),.i ((x.ms.length:Nat):Int)] il,.row k0 4 sl (eM q),.g M] A:=ak;have aQ:=ak.get 5;have aw:=(ak.freeze 5 (.a7 4 sl (eM q)) rfl (show aK ar k0 4 sl (eM q)from aQ).a7 (λb h=>by
  have h:b∈(if eM q=[]then[]else aN sl):=h;split at h
  .cases h
  .exact h)).take 4
 have eD:A++[En.a7 4 sl (eM q)]=D++[pE,En.a7 4 sl (eM q)]:=by rw[am];simp
 rw[eD]at aw;have ae:∀z∈D,z∈D++[pE,En.a7 4 sl (eM q)]:=λz Q=>bz _ Q;have P:=d.mv m5;have p5:=m5.p;have aV:=d.mc;refine tc (Y':={Y with Ms:=Y.Ms++[(t.text,(sl,⟨q,s3.p,x.ms.length⟩))],e2:=al,c2:=Y.c2+1}) y rfl aw ?_ (W8 (D':=[]) _ _ (λb h=>?_) (λb h=>?_))
 .obtain ⟨es,c,q1,q2⟩:=d.mo;refine⟨⟨ae _ d.tk.t,d.tk.e⟩,⟨es,c,ae _ q1,q2⟩,ae _ d.kc,P.gr.sub ae,λB k=>?_,?_,d.sv,?_,d.pm,d.kn,d.dp,⟨P.ok.T,P.ok.vs,P.ok.pm,λB k=>?_⟩,P.p,P.tm,?_,P.cc⟩
  .rcases aL.1 k with k|k
   .exact ae _ (d.pr B k)
   .rw [bX.1 k];exact b0 _ (by simp)
  .show x.ms++[(t.text,(⟨q,s3.p,x.ms.length⟩:PM))]=(Y.Ms++[_]).map _;rw[dX,<-d.ms];rfl
  .show eG al ((Y.Ms++[_]).map oV);rw[dX];exact u3
  .have k:B∈x.ms++[(t.text,(⟨q,s3.p,x.ms.length⟩:PM))]:=k;show B.2.ix<(x.ms++[(t.text,(⟨q,s3.p,x.ms.length⟩:PM))]).length/\_;rw[b'];rcases aL.1 k with k|k
   .obtain ⟨o1,o2,o3,o4⟩:=d.ok.ms B k;have o1:B.2.ix<x.ms.length:=o1;exact⟨by simp;omega,o2,o3,o4⟩
   .rw [bX.1 k];have:=ac.l;exact⟨by simp,ac.l,aO,by show q.length<=100000;omega⟩
  .show (x.ms++[(t.text,(⟨q,s3.p,x.ms.length⟩:PM))]).length<=s5.p;rw[b'];simp;omega
 .rw [aq]at h;have:b=w.heap.size:=by simpa[En.ob]using h
  omega
 .have ap:b∈(En.row k0 4 sl (eM q)).fp:=by
   have h:b∈(if eM q=[]then[]else aN sl):=h;split at h
   .cases h
   .exact h
  have aM:=Z.new _ (aB (i:=2) rfl) b ap;have aX:w.heap.size<=W.heap.size:=K.fr.size;rcases aM with N|N
  .omega
  .exfalso;rcases aE.1 N with rfl|N
   .exact i5 Z.nd (i:=2) (j:=0) rfl rfl (by decide) _ ap (by simp[En.ob])
   .rw [bX]at N;subst N;exact i5 Z.nd (i:=2) (j:=1) rfl rfl (by decide) _ ap (by simp[En.ob])
end
structure nz(N:Nat)(T:List aR):Prop where
 so:k' N
 n:N+1<=1000000
 f:∀t∈T,t.kind=5->∀S,g6 t.text=.inr S->iG N (cu S.tp)
 t:∀(tm:aI->PR Nat) (wd:List UInt8) (s:aI) (n:Nx) (s':aI),jc T tm wd s=.ok n s'->jW n
section
variable {N:Nat} {T:List aR} {Y:k9} {x:cJ} {D:List En}
def PT(d:nz N T){E:bS}(h:E.T=T)(s:aI)(e:List (List UInt8×(Sl×PM))):hE E e (fQ (mS E s) E) s.p/\jt E (fQ (mS E s) E) s.p:=
 ⟨DS d.so d.n d.f d.t (mS E s) E s.p h (be _),λk n j _=>v7 _ E k n j (dc _)⟩
def Xp(hX:nz N T)(C:gG T Y x D){w:J}(H:O (·∈(ch Y x).flatMap (·.fp)) w w (ch Y x) D):aj U Cy #[.pointer (some (ad Y.X.rb))] w (hV T Y x D w (oK T x)):=by
 have hT:=C.ok.T;have ap:T.length<=100000:=hT.l;have e:oK T x=(bM T 2 x.s).s x λw x=>
  if w.text=[100,101,99,108,97,114,101]then ur T w x else
  if w.text=[100,101,102,105,110,101]then uu T x else
  if w.text=[97,115,115,101,114,116]\/w.text=[101,100,105,116]then
   (bM T 2 x.s).s x λt x=>(wc T x).s x λn x=>(bM T 1 x.s).s x λ_ x=>.ok {x with cs:=x.cs++[⟨if w.text=[101,100,105,116]then 2 else 1,t.text,bg,n,0⟩]}else
  if w.text=[114,101,116,114,97,99,116]then(bM T 2 x.s).s x λt x=>(bM T 1 x.s).s x λ_ x=>.ok {x with cs:=x.cs++[⟨3,t.text,bg,0,0⟩]}else
  if w.text=[112,117,115,104]then(bM T 1 x.s).s x λ_ x=>.ok {x with cs:=x.cs++[⟨4,[],bg,0,0⟩]}else
  if w.text=[112,111,112]then(bM T 1 x.s).s x λ_ x=>.ok {x with cs:=x.cs++[⟨5,[],bg,0,0⟩]}else
  if w.text=[99,104,101,99,107]then(dm T x.s).s x λn ac=>if 1099511627776<n then .er 5 (aW T x.s.p).a3 else(bM T 1 ac.s).s ac λ_ x=>.ok {x with cs:=x.cs++[⟨6,[],bg,0,n⟩]}else
  .er 2 w.a3:=rfl
 have aq:=C.cc;generalize hq:oK T x=q at e ⊢;have fin:∀(j:Nat) (R:List En) (c:hf) (Y1:k9) (x1:cJ) (D1 D':List En) (w1:J),Y1.X.rb=Y.X.rb->D1=D++D'->(∀aa∈D',∀b∈aa.fp,w.heap.size<=b\/∃g∈D,b∈g.fp)->O (·∈(ch Y x).flatMap (·.fp)) w w1 (ch Y1 x1++R) D1->gG T Y1 x1 D1->En.g j∈R->
   q=((bM T 1 x1.s).s x1 λ_ x=>.ok {x with cs:=x.cs++[c]})->sP.bA (ad Y1.X.rb) j c.k (ba c.nm) c.st.k c.st.n c.st.x c.nd c.n w1 (hV T Y x D w q):=by
  intro j R c Y1 x1 D1 D' w1 hy hD ai H1 B W e;subst hD;refine ew (X:=Y1.X) H1 0 rfl (hO (H1.get 0) (cF H1 (i:=0) rfl rfl) B.tk B.p) (λcl M w2 K H2=>⟨_,_,_,rfl,H2.af (λw3 V=>?_) (λb h=>?_)⟩) (λQ p w' er f=>gS (e.trans (jL er)) f) (λb h=>?_)
  .have m:=dW hT B.p (by decide) K;have hp:=m.p;have h1:=B.cc;have h2:=B.p;refine GX (R:=R) (show O _ w w3 (ch Y1 {x1 with s:=M}++R) _ from V) (B.mv m) c (by show x1.cs.length+1<=M.p;omega) (by show x1.cs.length<=100000;omega) (λb h=>by rw[bX.1 h];exact W) λY' z an y ak=>?_;exact tc (e.trans (iS K)) (an.trans hy) (y.take 4) ak ai
  .rw [bX.1 h];exact b0 [_,_,_,_] W
  .rw [bX.1 h];exact b0 [_,_,_] W
 refine sP.au _ w _ (ew (bs:=[]) H 0 rfl (hO (H.get 0) (cF H (i:=0) rfl rfl) C.tk C.p) (λG L w1 e1 H1=>⟨_,_,_,rfl,H1.ay λF w2 H2=>H2.ay λj w3 V=>?_⟩) (λQ p w' er f=>gS (e.trans (jL er)) f));have m1:=dW hT C.p (by decide) e1;have e:=e.trans (iS e1);have B:=C.mv m1;have V:O (·∈(ch Y x).flatMap (·.fp)) w w3 (ch Y {x with s:=L}++[.g F,.g j]) D:=V;have tr:∀(k:Int) (z:J),O (·∈(ch Y x).flatMap (·.fp)) w z (ch Y {x with s:=L}++[.g F,.g j]) D->
   q=((bM T 2 L).s {x with s:=L} λt x=>(wc T x).s x λn x=>(bM T 1 x.s).s x λ_ x=>.ok {x with cs:=x.cs++[⟨k,t.text,bg,n,0⟩]})->
   sP.bb (ad Y.X.rb) j k (ba []) 0 0 0 0 0 z (hV T Y x D w q):=λk z y e=>by
  refine ew (X:=Y.X) y 0 rfl (hO (y.get 0) (cF y (i:=0) rfl rfl) C.tk B.p) (λt M P K A=>⟨_,_,_,rfl,A.af λw6 I=>?_⟩) (λQ p w' er f=>gS (e.trans (jL er)) f);have e:=e.trans (iS K);have m2:=m1.tr (dW hT B.p (by decide) K);have S:=C.mv m2;have I:O (·∈(ch Y x).flatMap (·.fp)) w w6 (ch Y {x with s:=M}++[.g F,.g j]) D:=I;obtain⟨hC,hI⟩:=PT hX (E:=l4 T {x with s:=M}) rfl M Y.Ms;refine kX (X:=Y.X) I 0 rfl C.gr.d (XC hC hI (I.get 0) (yZ I rfl) (S.en (λQ he=>b0 _ he) (by simp) (by simp)) (S.gr.sub λQ he=>b0 _ he) S.ok (be _) S.p S.tm) (λn s3 g' l' v w7 e3 hv hG W H7=>?_) (λQ p w' er f=>gS (e.trans (jL (q:=wc T _) er)) f);subst hv;have e:=e.trans (iS (q:=wc T {x with s:=M}) e3);obtain⟨n',ao,e4,e5⟩:=cL e3;have e6:n'=n/\ao=s3:=by
   split at e5
   .cases e5;exact⟨rfl,rfl⟩
   .cases e5
  rw[e6.1,e6.2]at e4;have al:=(hI M n s3 (be _) S.p S.tm S.gr.v S.ok e4).1;refine⟨_,rfl,H7.af λw8 H8=>?_⟩;refine fin j [.g F,.g j] ⟨k,t.text,bg,n,0⟩ {Y with X:={Y.X with g:=g'},l:=l'} {x with s:=s3} _ [.gr g' l'] w8 rfl rfl (λaa Z b ah=>?_) H8 (S.grow al hG λQ he=>bz _ he) (by simp) e;rw[bX.1 Z]at ah;exact(W b ah).elim (λh=>.inr ⟨_,C.gr.d,h⟩) .inl
 have rest:∀z,O (·∈(ch Y x).flatMap (·.fp)) w z (ch Y {x with s:=L}++[.g F,.g j]) D->G.text≠[100,101,99,108,97,114,101]->G.text≠[100,101,102,105,110,101]->G.text≠[97,115,115,101,114,116]->G.text≠[101,100,105,116]->
   sP.cv (ad Y.X.rb) F G.kind (ba G.text) G.a3 j 0 (ba []) 0 0 0 0 0 (ba G.text) z (hV T Y x D w q):=λz y h1 h2 h3 h4=>by
  rw[ab h1,ab h2,ab (by simp[h3,h4])]at e;refine dS (b:=[114,101,116,114,97,99,116]) (λh=>y.af λP A=>?_) (λh5=>?_)
  .rw [ag h]at e;refine ew (X:=Y.X) A 0 rfl (hO (A.get 0) (cF A (i:=0) rfl rfl) C.tk B.p) (λt M w6 K I=>⟨_,_,_,rfl,I.af λw7 H7=>?_⟩) (λQ p w' er f=>gS (e.trans (jL er)) f);have m2:=m1.tr (dW hT B.p (by decide) K);refine fin j [.g F,.g j] ⟨3,t.text,bg,0,0⟩ Y {x with s:=M} D [] w7 rfl (by simp) (λaa Z=>by cases Z) H7 (C.mv m2) (by simp) (e.trans (iS K))
  rw[ab h5]at e;refine dS (b:=[112,117,115,104]) (λh=>y.af λP A=>?_) (λh6=>?_)
  .rw [ag h]at e;exact fin j [.g F,.g j] ⟨4,[],bg,0,0⟩ Y {x with s:=L} D [] P rfl (by simp) (λaa Z=>by cases Z) A B (by simp) e
  rw[ab h6]at e;refine dS (b:=[112,111,112]) (λh=>y.af λP A=>?_) (λh7=>?_)
  .rw [ag h]at e;exact fin j [.g F,.g j] ⟨5,[],bg,0,0⟩ Y {x with s:=L} D [] P rfl (by simp) (λaa Z=>by cases Z) A B (by simp) e
  rw[ab h7]at e;refine dS (b:=[99,104,101,99,107]) (λh=>y.af λP A=>?_) (λh8=>?_)
  .rw [ag h]at e;have ht:=(pq B.p).2;generalize aW T ({x with s:=L}:cJ).s.p=t at ht e;refine⟨Y.X.tk,A.ld 0 0,_,A.ld 0 1,zq (A.rd _ C.tk.t) rfl ht λp am c=>⟨t.kind,ba t.text,t.a3,c.c0,c.c1,c.c2,A.ay λb4 w6 I=>?_⟩⟩;have c':=EM (I.rd _ C.tk.t) (X:=(L.p:Int)) rfl ht am;refine⟨c'.c0,c'.c1,c'.c2,I.ld 0 1,I.ld 0 0,I.af λw7 H7=>?_⟩;refine ew (X:=Y.X) H7 0 rfl (sZ (H7.get 0) (cF H7 (i:=0) rfl rfl) C.tk B.p) (λn M w8 K H8=>⟨_,rfl,aS (λhn=>H8.af λw9 H9=>?_) (λhn=>H8.af λw9 H9=>?_)⟩) (λQ p w' er f=>gS (e.trans (jL er)) f)
   .exact fI H9 (iR _ 5 t w9) λw' f=>gS ((e.trans (iS K)).trans (ag (by omega))) f
   .have m2:=m1.tr (j4 hT B.p K).1;exact fin j [.g F,.g j,.g b4] ⟨6,[],bg,0,n⟩ Y {x with s:=M} D [] w9 rfl (by simp) (λaa Z=>by cases Z) H9 (C.mv m2) (by simp) ((e.trans (iS K)).trans (ab (by omega)))
  rw[ab h8]at e;have hk:=(oZ e1).2.1;exact fI y (o7 _ G z) λw' f=>by rw[hk];exact gS e f
 refine dS (b:=[100,101,99,108,97,114,101]) (λh=>V.af λz y=>?_) (λh1=>?_)
 .rw [ag h]at e;exact Ef (R:=[.g F,.g j]) (show O _ w z (ch Y {x with s:=L}++[.g F,.g j]) D from y) (λH'=>Xr B H' (by show x.cs.length<=100000;have:=C.p;omega) G) (λac Y' D' P ey hy A ae W=>⟨rfl,tc (e.trans ey) hy (A.take 4) ae W⟩) (λQ p w' er f=>gS (e.trans er) f)
 refine dS (b:=[100,101,102,105,110,101]) (λh=>V.af λz y=>?_) (λh2=>?_)
 .rw [ab h1,ag h]at e;exact Ef (R:=[.g F,.g j]) (show O _ w z (ch Y {x with s:=L}++[.g F,.g j]) D from y) (λH'=>Xt B H') (λac Y' D' P ey hy A ae W=>⟨rfl,tc (e.trans ey) hy (A.take 4) ae W⟩) (λQ p w' er f=>gS (e.trans er) f)
 have term:(G.text=[97,115,115,101,114,116]\/G.text=[101,100,105,116])->∀z,O (·∈(ch Y x).flatMap (·.fp)) w z (ch Y {x with s:=L}++[.g F,.g j]) D->sP.aX (ad Y.X.rb) F G.kind (ba G.text) G.a3 j 0 (ba []) 0 0 0 0 0 z (hV T Y x D w q):=λh z y=>by
  rw[ab h1,ab h2,ag h]at e;refine dS (b:=[101,100,105,116]) (λh=>y.af λP A=>?_) (λh=>y.af λP A=>?_)
  .rw [ag h]at e;exact tr 2 P A e
  .rw [ab h]at e;exact tr 1 P A e
 refine dS (b:=[97,115,115,101,114,116]) (λh=>dS (b:=[97,115,115,101,114,116]) (λ_=>V.af λz y=>term (.inl h) z y) λh'=>absurd h h') (λh3=>?_);exact dS (b:=[101,100,105,116]) (λh=>V.af λz y=>term (.inr h) z y) (λh4=>V.af λz y=>rest z y h1 h2 h3 h4)
end
def jM{α:Type}{q:PR α}{y e:cJ}{f:α->cJ->SR}(d:q.s y f=.ok e):∃a s,q=.ok a s/\f a {y with s:=s}=.ok e:=by
 cases q with
 |ok a s=>exact⟨a,s,rfl,d⟩
 |er h p=>cases d
def QN{s s':aI}{n:Nx}{t:aR}{k:Nat}(h:eR s n t=.ok k s'):(bF s.g n).2=0/\s'.g[k]? =some (dD n (bF s.g n).1):=by
 unfold eR at h;split at h
 .rename_i d;cases h;unfold b6 at d ⊢;split at d
  .rename_i e;exact absurd d e
  .rename_i e;have e:(bF s.g n).2=0:=Classical.byContradiction e;refine⟨e,?_⟩;rw[ab (by rw[e];simp)];split at d
   .rename_i i j;have:=(xy j).2;simpa using this
   .rename_i j;split at d
    .cases d
    .rename_i q;rw[ab q];simp
 .cases h
def Vh{g:List Nx}{n:Nx}(d:(bF g n).2=0)(y:n.op=0\/n.op=1\/n.op=3):dD n (bF g n).1=n:=by
 unfold bF at d ⊢;split at d
 .cases d
 rename_i w;rw[ab w];rw[ag (by omega)]at d ⊢;have x:n.op≠2:=by omega
 unfold bQ at d ⊢;rw[ab x]at d ⊢;repeat' split at d
 all_goals first |(cases d;done)|skip
 rename_i e h j k q;rw[ab e,ab h,ab j,ab k,ab q];rfl
def ns(g:List Nx)(c:hf):Prop:=0<=c.nd/\(c.nd<g.length\/c.nd=0)/\((c.k=1\/c.k=2)->(g[c.nd.toNat]?).map (·.st)=some (a' 1))/\(c.k=0->g[c.nd.toNat]? =some ⟨0,[],0,0,0,ba c.nm,c.st⟩)
def ns.up{g r:List Nx}{c:hf}(h:ns g c):ns (g++r) c:=by
 have k:∀e,g[c.nd.toNat]? =some e->(g++r)[c.nd.toNat]? =some e:=λe d=>by rw[List.getElem?_append_left (cr.1 d).1];exact d
 refine⟨h.1,h.2.1.imp (λh=>by rw[b'];omega) id,λj=>?_,λj=>k _ (h.2.2.2 j)⟩;have:=h.2.2.1 j;cases d:g[c.nd.toNat]? with
 |none=>rw[d]at this;cases this
 |some e=>rw[d]at this;rw[k e d];exact this
structure iw(T:List aR)(x:cJ):Prop where
 p:x.s.p<T.length
 tm:x.s.tm<=65536
 v:Vg x.s.g
 e:ei (l4 T x) x.s.g
 c:∀c∈x.cs,ns x.s.g c
structure wH(x y:cJ):Prop where
 p:x.s.p<y.s.p
 g:∃r,y.s.g=x.s.g++r
 c:∃r,y.cs=x.cs++r
def iw.mv{T:List aR}{x:cJ}(d:iw T x){s':aI}(m:Mv T x.s s'):iw T {x with s:=s'}:=
 ⟨m.l,by show s'.tm<=_;rw[m.t];exact d.tm,by show Vg s'.g;rw[m.g];exact d.v,⟨d.e.T,by rw[m.g];exact d.e.vs,by rw[m.g];exact d.e.pm,d.e.ms⟩,by show ∀c∈x.cs,ns s'.g c;rw[m.g];exact d.c⟩
def iw.go{T:List aR}{x:cJ}(d:iw T x){s':aI}(m:iZ T x.s s'):iw T {x with s:=s'}:=by have:=d.e.up m.len;obtain⟨r,h⟩:=m.g;exact⟨m.l,m.t.2,m.v,⟨this.T,this.vs,this.pm,this.ms⟩,λc j=>by show ns s'.g c;rw[h];exact(d.c c j).up⟩
section
variable {T:List aR} {x y:cJ}
def Td(D:iw T x){w:aR}(e:ur T w x=.ok y):iw T y/\wH x y:=by
 have A:=D.e.T;obtain⟨u,Z,P,e⟩:=jM e;obtain⟨aa,s2,Q,e⟩:=jM e;obtain⟨W,s3,S,e⟩:=jM e;obtain⟨k,q,H,e⟩:=jM e;cases e;have V:=(yq (E:=l4 T x) P).1;have I:=dW A D.p (by decide) V;have K:=I.tr (th A I.l Q).1;have F:=K.tr (dW A K.l (by decide) S);have z:=D.mv F;obtain⟨G,N⟩:=tX z.v z.p z.tm H;obtain⟨O,C⟩:=QN H;have d:=z.go G;have C:=C.trans (congrArg some (Vh O (.inl rfl)));have Y:=F.p;have L:=G.p;obtain⟨r,er⟩:=G.g;refine⟨⟨d.p,d.tm,d.v,⟨A,λM j=>?_,d.e.pm,d.e.ms⟩,λc h=>?_⟩,⟨by show x.s.p<q.p;have L:s3.p<=q.p:=L;omega,⟨r,by show q.g=_;rw[er];show s3.g++r=_;rw[F.g]⟩,⟨_,rfl⟩⟩⟩
 .rcases aL.1 (show M∈x.vs++[(u.text,k)]from j)with j|j
  .exact d.e.vs M j
  .rw [bX.1 j];exact N
 .rcases aL.1 h with h|h
  .exact d.c c h
  .rw [bX.1 h];exact⟨Int.natCast_nonneg _,.inl (by have:k<q.g.length:=N;show(k:Int)<(q.g.length:Int);omega),λB=>(by rcases B with B|B<;>cases B),λ_=>C⟩
def Te(k:iw T x)(e:uu T x=.ok y):iw T y/\wH x y:=by
 have d:=k.e.T;obtain⟨o,s1,H,e⟩:=jM e;obtain⟨t,s2,I,e⟩:=jM e;split at e
 .cases e
 obtain⟨A,s3,K,e⟩:=jM e;obtain⟨u,s4,L,e⟩:=jM e;obtain⟨Y,s5,M,e⟩:=jM e;cases e;have C:=dW d k.p (by decide) H;have P:=(yq (E:=l4 T x) I).1;have D:=C.tr (dW d C.l (by decide) P);obtain⟨O,N,Z⟩:=DC d _ _ _ _ _ D.l (by simp) (dc _) K;have w:=D.tr O;have F:=w.tr (El d _ _ _ _ w.l L);have z:=F.tr (dW d F.l (by decide) M);have j:=k.mv z;have B:=d.l;have B:T.length<=100000:=B;have W:=w.l;refine⟨⟨j.p,j.tm,j.v,⟨d,j.e.vs,j.e.pm,λq h=>?_⟩,j.c⟩,⟨z.p,⟨[],by rw[cP];exact z.g⟩,⟨[],(cP _).symm⟩⟩⟩;have h:q∈x.ms++[(t.text,(⟨A,s3.p,x.ms.length⟩:PM))]:=h;show q.2.ix<(x.ms++[(t.text,(⟨A,s3.p,x.ms.length⟩:PM))]).length/\_;rw[b'];rcases aL.1 h with h|h
 .obtain ⟨G,Q,S,V⟩:=k.e.ms q h;have G:q.2.ix<x.ms.length:=G;exact⟨by simp;omega,Q,S,V⟩
 .rw [bX.1 h];exact⟨by simp,W,N,by show A.length<=100000;omega⟩
def SJ(h:iw T x)(e:oK T x=.ok y):iw T y/\wH x y:=by
 have C:=h.e.T;have fin:∀{c:hf} {x1:cJ},iw T x1->x.s.p<=x1.s.p->(∃r,x1.s.g=x.s.g++r)->x1.cs=x.cs->ns x1.s.g c->((bM T 1 x1.s).s x1 λ_ x=>.ok {x with cs:=x.cs++[c]})=.ok y->iw T y/\wH x y:=λ{c x1} z hp W V A e=>by
  obtain⟨cl,B,w,e⟩:=jM e;cases e;have m:=dW C z.p (by decide) w;have d:=z.mv m;obtain⟨r,er⟩:=W;have mp:=m.p;refine⟨⟨d.p,d.tm,d.v,⟨C,d.e.vs,d.e.pm,d.e.ms⟩,λN E=>?_⟩,⟨by show x.s.p<B.p;omega,⟨r,by show B.g=_;rw[m.g];exact er⟩,⟨[c],by show x1.cs++[c]=_;rw[V]⟩⟩⟩;rcases aL.1 E with E|E
  .exact d.c N E
  .rw [bX.1 E];show ns B.g c;rw[m.g];exact A
 have G:∀(k n:Int) (L:List UInt8),3<=k->∀g,ns g ⟨k,L,bg,0,n⟩:=λk n L A g=>⟨Int.le_refl _,.inr rfl,λh=>by have h:k=1\/k=2:=h;omega,λh=>by have h:k=0:=h;omega⟩;obtain⟨Z,F,O,e⟩:=jM e;have j:=dW C h.p (by decide) O;have z:=h.mv j;have M:=j.p;have K:∃r,F.g=x.s.g++r:=⟨[],by rw[cP];exact j.g⟩;dsimp only at e;split at e
 .obtain ⟨a,b⟩:=Td z e;obtain⟨r,er⟩:=b.g;have D:=b.p;exact⟨a,⟨by have D:F.p<y.s.p:=D;omega,⟨r,by rw[er];show F.g++r=_;rw[j.g]⟩,b.c⟩⟩
 split at e
 .obtain ⟨a,b⟩:=Te z e;obtain⟨r,er⟩:=b.g;have D:=b.p;exact⟨a,⟨by have D:F.p<y.s.p:=D;omega,⟨r,by rw[er];show F.g++r=_;rw[j.g]⟩,b.c⟩⟩
 split at e
 .rename_i hw;obtain⟨t,B,w,e⟩:=jM e;obtain⟨n,s3,P,e⟩:=jM e;have q:=j.tr (dW C j.l (by decide) w);have d:=h.mv q;obtain⟨n',aa,Q,H⟩:=cL P;split at H
  .rename_i Y;cases H;obtain⟨I,_,q3⟩:=v7 _ _ B n s3 (dc _) d.p d.tm d.v d.e Q;have S:=d.go I;obtain⟨r,er⟩:=I.g;have p2:=q.p;have p3:=I.p;refine fin S (by show x.s.p<=s3.p;omega) ⟨r,by show s3.g=_;rw[er,q.g]⟩ rfl ⟨Int.natCast_nonneg _,.inl (by show(n:Int)<(s3.g.length:Int);omega),λ_=>?_,λA=>?_⟩ e
   .exact Y
   .have A:(if Z.text=[101,100,105,116]then(2:Int)else 1)=0:=A;split at A<;>cases A
  .cases H
 split at e
 .obtain ⟨t,B,w,e⟩:=jM e;have q:=j.tr (dW C j.l (by decide) w);exact fin (h.mv q) (Nat.le_of_lt q.p) ⟨[],by rw[cP];exact q.g⟩ rfl (G 3 0 _ (by decide) _) e
 split at e
 .exact fin z (Nat.le_of_lt M) K rfl (G 4 0 _ (by decide) _) e
 split at e
 .exact fin z (Nat.le_of_lt M) K rfl (G 5 0 _ (by decide) _) e
 split at e
 .obtain ⟨n,B,w,e⟩:=jM e;split at e
  .cases e
  .have q:=j.tr (j4 C j.l w).1;exact fin (h.mv q) (Nat.le_of_lt q.p) ⟨[],by rw[cP];exact q.g⟩ rfl (G 6 n _ (by decide) _) e
 .cases e
end
def YF{x:SR}{f:cJ->SR}{e:Int}{p:Nat}(d:x=.er e p):x.b f=.er e p:=by subst d;rfl
def YG{x:SR}{f:cJ->SR}{y:cJ}(d:x=.ok y):x.b f=f y:=by subst d;rfl
section
variable {N:Nat} {T:List aR} {Y:k9} {x:cJ} {D:List En}
def Xz(hX:nz N T)(hS:gG T Y x D)(P:iw T x){w:J}(H:O (·∈(ch Y x).flatMap (·.fp)) w w (ch Y x) D):aj U CH #[.pointer (some (ad Y.X.rb))] w (hV T Y x D w (m9 T (T.length+1) x)):=by
 have hT:=P.e.T;have loop:∀(f:Nat) (d:k9) (x1:cJ) (D':List En) (F:J) (q:SR),T.length - x1.s.p<f->d.X.rb=Y.X.rb->iw T x1->O (·∈(ch Y x).flatMap (·.fp)) w F (ch d x1) (D++D')->gG T d x1 (D++D')->(∀z∈D',∀b∈z.fp,w.heap.size<=b\/∃g∈D,b∈g.fp)->q=m9 T f x1->yF.a0 (ad d.X.rb) F (hV T Y x D w q):=by
  intro f;induction f with
  |zero=>intro d x1 D' F q hf;omega
  |succ f ih=>
   intro d x1 D' F q hf hy S G A M j;have j:q=if(aW T x1.s.p).kind=6 then .ok x1 else if(aW T x1.s.p).kind=0 then(oK T {x1 with s:=cK (aW T x1.s.p) x1.s}).b λx=>m9 T f x else .er 2 (aW T x1.s.p).a3:=j;have aa:=vA (G.get 0) (cF G (i:=0) rfl rfl) A.tk A.p;have V:(aW T x1.s.p).kind≠6->Mv T x1.s (cK (aW T x1.s.p) x1.s):=λh=>rq hT A.p h;have W:(aW T x1.s.p).kind=6->cK (aW T x1.s.p) x1.s=x1.s:=λh=>ag h;generalize aW T x1.s.p=t at j aa V W;refine yF.bJ _ _ _ (x9 G 0 rfl rfl rfl aa λw2 H2=>⟨_,_,_,rfl,H2.ay λK w3 I=>ax (λh=>I.af λC k=>?_) (λh=>ax (λL=>I.af λC k=>?_) (λL=>I.af λC k=>?_))⟩)
   .have k:O (·∈(ch Y x).flatMap (·.fp)) w C ([bf d.X (cK t x1.s),.ob d.X.mv (.map d.e1 d.c1),.ob d.X.mm (.map d.e2 d.c2),.row iW 7 d.X.cs (gJ x1.cs)]++[.g K]) (D++D'):=k;rw[W h]at k;exact tc (j.trans (ag h)) hy (k.take 4) A M
   .rw [ab h,ag L]at j;have m:=V h;have mp:=m.p;refine Ef (R:=[.g K]) (x:={x1 with s:=cK t x1.s}) (show O _ w C (ch d {x1 with s:=cK t x1.s}++[.g K]) _ from k) (λH'=>Xp hX (A.mv m) H') (λae Y' ah w5 Q ac H5 ai hb=>⟨rfl,?_⟩) (λak p w' er f=>gS (j.trans (YF er)) f);obtain⟨o1,o2⟩:=SJ (S.mv m) Q;have q1:=o2.p;have q1:(cK t x1.s).p<ae.s.p:=q1;rw[<-ac];have al:=S.p;refine ih Y' ae (D'++ah) w5 q (by omega) (ac.trans hy) o1 (by rw[<-hr];exact H5.take 4) (by rw[<-hr];exact ai) (λz y b Z=>?_) (j.trans (YG Q));rcases aL.1 y with y|y
    .exact M z y b Z
    .rcases hb z y b Z with E|⟨g,B,E⟩
     .exact .inl E
     .rcases aL.1 B with B|B
      .exact .inr ⟨g,B,E⟩
      .exact M g B b E
   .rw [ab h,ab L]at j;exact fI k (o7 _ t C) λw' f=>by rw[ab h];exact gS j f
 exact yF.au _ w _ (loop (T.length+1) Y x [] w _ (by have:=P.p;omega) rfl P (by rw[cP];exact H) (by rw[cP];exact hS) (λz y=>by cases y) rfl)
end
structure SS(P:aw)(ops:Array Oper)(Q:Exit->Act->List Frame->J->Prop)(l:List Nat)(a:Act)(cs:List Frame)(w:J):Prop where
 h:wpOpsS P ops Q l a cs w
structure SW(P:aw)(ops:Array Oper)(Q:Exit->Act->J->Prop)(l:List Nat)(a:Act)(w:J):Prop where
 h:wpOps P ops Q l a w
section
variable {P:aw} {ops:Array Oper} {i:Nat} {rest:List Nat} {a:Act} {cs:List Frame} {w V:J} {o:Oper} {v:aa}
def o2(d:(ops.toList.drop i).head? =some o):ops[i]? =some o:=by rw[List.head?_drop]at d;simpa using d
def kh{Q:Exit->Act->List Frame->J->Prop}(e:(ops.toList.drop i).head? =some o)(q:b3 o (yielded ops a.tmps)=true)(k:(execOp a.eval o).run P w=.ok (.value v) V)(d:SS P ops Q rest (a.put o.dst v) cs V):SS P ops Q (i::rest) a cs w:=by constructor;have j:=o2 e;simp only[wpOpsS,j,q,if_true,k,Oper.upon_value];exact d.h
def Ox{Q:Exit->Act->List Frame->J->Prop}(e:(ops.toList.drop i).head? =some o)(q:b3 o (yielded ops a.tmps)=true)(k:(execOp a.eval o).run P w=.ok .skip V)(d:SS P ops Q rest (a.put o.dst undef) cs V):SS P ops Q (i::rest) a cs w:=by constructor;have j:=o2 e;simp only[wpOpsS,j,q,if_true,k,Oper.upon_skip];exact d.h
def Yc{Q:Exit->Act->List Frame->J->Prop}(e:(ops.toList.drop i).head? =some o)(x:b3 o (yielded ops a.tmps)=true)(q:(execOp a.eval o).run P w=.ok .recover V)(j:recoverD cs=none)(d:SS P ops Q rest (a.put o.dst .nilIface) cs V):SS P ops Q (i::rest) a cs w:=by constructor;have k:=o2 e;simp only[wpOpsS,k,x,if_true,q,j];exact d.h
variable {Q:Exit->Act->J->Prop}
def y4(e:(ops.toList.drop i).head? =some o)(q:b3 o (yielded ops a.tmps)=true)(k:(execOp a.eval o).run P w=.ok (.value v) V)(d:SW P ops Q rest (a.put o.dst v) V):SW P ops Q (i::rest) a w:=by constructor;have j:=o2 e;simp only[wpOps,j,q,if_true];refine .inl ?_;unfold Oper.wp;rw[k];exact d.h
def Oy(e:(ops.toList.drop i).head? =some o)(q:b3 o (yielded ops a.tmps)=true)(k:(execOp a.eval o).run P w=.ok .skip V)(d:SW P ops Q rest (a.put o.dst undef) V):SW P ops Q (i::rest) a w:=by constructor;have j:=o2 e;simp only[wpOps,j,q,if_true];refine .inl ?_;unfold Oper.wp;rw[k];exact d.h
def Ye{d:Deferred}(j:(ops.toList.drop i).head? =some o)(x:b3 o (yielded ops a.tmps)=true)(q:(execOp a.eval o).run P w=.ok (.defer d) V)(e:SW P ops Q rest ({a with defers:=d::a.defers}.put o.dst undef) V):SW P ops Q (i::rest) a w:=by constructor;have k:=o2 j;simp only[wpOps,k,x,if_true];refine .inl ?_;unfold Oper.wp;rw[q];exact e.h
def y0{Q:Exit->Act->List Frame->J->Prop}(d:Q .normal a cs w):SS P ops Q [] a cs w:=⟨d⟩
def y2(d:Q .normal a w):SW P ops Q [] a w:=⟨d⟩
def zi{p:Addr}{inf:TypeInfo}{T:aD}{x y:Operand}(d:o.op=.store T x y)(j:a.eval x=.pointer (some p))(k:a.eval y=v)(hi:P.info? T=some inf)(h:v.cells.size=inf.size)(e:(storeCells p v.cells.toList 0).run P w=.ok () V):(execOp a.eval o).run P w=.ok .skip V:=by simp[execOp,d,Instr.storeAt,j,k,Instr.sureAddr,storeVar,sizeOf,typeInfo,hi,h,e]
end
def y1{P:aw}{id:Nat}{ops:Array Oper}{Q:Exit->Act->List Frame->J->Prop}{a:Act}{cs:List Frame}{w:J}(l:List Nat)(e:List.range ops.size=l)(d:SS P ops Q l a cs w):(Code.region id ops false).wpS P Q a cs w:=wpS_region (e▸d.h)
def y3{P:aw}{id:Nat}{ops:Array Oper}{Q:Exit->Act->J->Prop}{a:Act}{w:J}(l:List Nat)(e:List.range ops.size=l)(d:SW P ops Q l a w):(Code.region id ops false).wp P Q a w:=wp_region (e▸d.h)
abbrev fZ:aa:=.agg #[.i 0,.i 0]
def xA{P:aw}{T n:Nat}(d:(P.info? T).map (·.size)=some n):∃i,P.info? T=some i/\i.size=n:=Option.map_eq_some_iff.1 d
def H2:(Tryz.prog.info? jS).map (·.size)=some 2:=by kernel_rfl
def TA:(Tryz.prog.info? gF).map (·.size)=some 1:=by kernel_rfl
def UB:(Tryz.prog.info? bn).map (·.size)=some 1:=by kernel_rfl
def Yd{P:aw}{ops:Array Oper}{i:Nat}{rest:List Nat}{a:Act}{cs d:List Frame}{w V:J}{o:Oper}{v:aa}{Q:Exit->Act->List Frame->J->Prop}(j:(ops.toList.drop i).head? =some o)(y:b3 o (yielded ops a.tmps)=true)(x:(execOp a.eval o).run P w=.ok .recover V)(k:recoverD cs=some (v,d))(e:SS P ops Q rest (a.put o.dst v) d V):SS P ops Q (i::rest) a cs w:=by constructor;have q:=o2 j;simp only[wpOpsS,q,y,if_true,x,k];exact e.h
def Z2{P:aw}{id:Nat}{ops:Array Oper}{n:Cx}{K:Env->J->Prop}{a:Act}{E:Env}{w:J}{l:List Nat}(k:P.follows .mixedOrders=true)(q:di n ops=true)(j:o1 P ops l (Array.replicate ops.size false)=true)(y:l.length=ops.size)(h:Ag n a E)(e:gR P ops true K l E w.drew []):(Code.region id ops true).wp P (gV n K) a w:=by have d:=Ed q l _ E _ [] a j h (λp x=>(by cases x)) e;rw[y]at d;exact wp_region_any k (wm _ [] _ _ _ (Down.zero _ _) d)
def Yb(p q:Addr)(w:J):CallsD U sB #[.pointer (some p),.pointer (some q)] .returning w λx D E=>x=ae (.tuple #[])/\D=.returning/\ah w E:=by
 refine callsD_of_wpS (fn:=Tryz.f42) (by kernel_rfl) rfl λc₀ k B=>?_;have z:recoverD (c₀::k)=none:=by simp[recoverD,B]
 obtain⟨inf,y,A⟩:=xA H2;refine wpS_seq (y1 [0,1,2,3,4,5,6,7] (by kernel_rfl) ?_);refine Yc (i:=0) (by rfl) (by kernel_rfl) (V:=w) (by kernel_rfl) z ?_;refine kh (i:=1) (by rfl) (by kernel_rfl) (V:=w) (v:=.tuple #[fZ,.bool false]) (by kernel_rfl) ?_;refine kh (i:=2) (by rfl) (by kernel_rfl) (V:=w) (v:=.tuple #[fZ,.bool false]) (by kernel_rfl) ?_;refine kh (i:=3) (by rfl) (by kernel_rfl) (V:=w) (v:=fZ) (by kernel_rfl) ?_;refine kh (i:=4) (by rfl) (by kernel_rfl) (V:=w) (v:=.bool false) (by kernel_rfl) ?_;refine kh (i:=5) (by rfl) (by kernel_rfl) (V:=w.alloc (.cells #[.i 0,.i 0] jS)) (v:=ptr w.heap.size) (by kernel_rfl) ?_;have h:O F0 w (w.alloc (.cells #[.i 0,.i 0] jS)) [.c w.heap.size [.i 0,.i 0] jS] []:=(bO (w:=w) [] (by simp)).alloc _;obtain⟨d,C,e⟩:∃d,(storeCells (ad w.heap.size) [.i 0,.i 0] 0).run U (w.alloc (.cells #[.i 0,.i 0] jS))=.ok () d/\O F0 w d [.c w.heap.size [.i 0,.i 0] jS] []:=
  tj (P:=U) (p:=ad w.heap.size) (i:=0) (vs:=[.i 0,.i 0]) (K:=λd=>O F0 w d [.c w.heap.size [.i 0,.i 0] jS] []) rfl (h.st 0 0 rfl λF j=>j.st 0 1 rfl λd e=>e)
 refine Ox (i:=6) (by rfl) (by kernel_rfl) (V:=d) (zi rfl (by kernel_rfl) (v:=fZ) (by kernel_rfl) y (by rw[A];rfl) C) ?_;refine kh (i:=7) (by rfl) (by kernel_rfl) (V:=d) (v:=.bool false) (by kernel_rfl) (y0 ?_);refine wpS_seq (y1 [0] (by kernel_rfl) ?_);refine kh (i:=0) (by rfl) (by kernel_rfl) (V:=d) (v:=.bool false) (by kernel_rfl) (y0 ?_);refine wpS_cond (t:=false) (by kernel_rfl) (wpS_of_wp (wp_skip ?_));refine⟨rfl,.returning,by cases c₀;simp_all,.tuple #[],by kernel_rfl,rfl,rfl,e.fr⟩
def Vy{M:Nat->Prop}{w0 w:J}{e:En}{L D:List En}(H:O M w0 w (e::L) D):O M w0 w L D:=by have h:=H.nd;rw[df,dL]at h;exact⟨H.fr,λg d=>H.own g (cH _ d),H.rd,λg d=>H.new g (cH _ d),h.2.1,λj q b k g d=>H.dj j q b k g (cH _ d)⟩
def get_mem{t:Nat}{v:aa}:∀{E:Env},E.get? t=some v->(t,v)∈E
 |[],d=>by cases d
 |(h,u)::E,d=>by
  unfold Env.get? at d;cases e:Nat.beq h t with
  |true=>
   rw[e]at d;have:=Nat.eq_of_beq_eq_true e;subst this;cases d;exact me
  |false=>
   rw[e]at d;exact cH _ (get_mem d)
def X'(p q:Nat)(x0 x:aa)(e:Int)(d:Nat){M:Nat->Prop}{w0 w:J}{L D:List En}(H:O M w0 w ([.c p [x0] bn,.c q [x] gF]++L) D):CallsD U sB #[.pointer (some (ad p)),.pointer (some (ad q))] (.panicking (hl e d)) w λr u' I=>r=ae (.tuple #[])/\settle u'=.returning/\O M w0 I ([.c p [.i (d:Int)] bn,.c q [.i e] gF]++L) D:=by
 refine callsD_of_wpS (fn:=Tryz.f42) (by kernel_rfl) rfl λc₀ F hu=>?_;have Y:recoverD (c₀::F)=some (xr e d,{c₀ with mode:=.panicking [{v:=xr e d,recovered:=true}]}::F):=by simp[recoverD,hu,hl]
 obtain⟨inf,W,Z⟩:=xA H2;refine wpS_seq (y1 [0,1,2,3,4,5,6,7] (by kernel_rfl) ?_);refine Yd (i:=0) (by rfl) (by kernel_rfl) (V:=w) (by kernel_rfl) Y ?_;refine kh (i:=1) (by rfl) (by kernel_rfl) (V:=w) (v:=.tuple #[.agg #[.i e,.i (d:Int)],.bool true]) (by kernel_rfl) ?_;refine kh (i:=2) (by rfl) (by kernel_rfl) (V:=w) (v:=.tuple #[.agg #[.i e,.i (d:Int)],.bool true]) (by kernel_rfl) ?_;refine kh (i:=3) (by rfl) (by kernel_rfl) (V:=w) (v:=.agg #[.i e,.i (d:Int)]) (by kernel_rfl) ?_;refine kh (i:=4) (by rfl) (by kernel_rfl) (V:=w) (v:=.bool true) (by kernel_rfl) ?_;refine kh (i:=5) (by rfl) (by kernel_rfl) (V:=w.alloc (.cells #[.i 0,.i 0] jS)) (v:=ptr w.heap.size) (by kernel_rfl) ?_;have y:O M w0 (w.alloc (.cells #[.i 0,.i 0] jS)) (.c w.heap.size [.i 0,.i 0] jS::.c p [x0] bn::.c q [x] gF::L) D:=lA (H.alloc (.cells #[.i 0,.i 0] jS)) List.perm_append_comm;obtain⟨h,r2,z⟩:∃h,(storeCells (ad w.heap.size) [.i e,.i (d:Int)] 0).run U (w.alloc (.cells #[.i 0,.i 0] jS))=.ok () h/\O M w0 h (.c w.heap.size [.i e,.i (d:Int)] jS::.c p [x0] bn::.c q [x] gF::L) D:=
  tj (P:=U) (p:=ad w.heap.size) (i:=0) (vs:=[.i e,.i (d:Int)]) (K:=λh=>O M w0 h (.c w.heap.size [.i e,.i (d:Int)] jS::.c p [x0] bn::.c q [x] gF::L) D) rfl (y.st 0 0 rfl λw1 y=>y.st 0 1 rfl λh z=>z)
 refine Ox (i:=6) (by rfl) (by kernel_rfl) (V:=h) (zi rfl (by kernel_rfl) (v:=.agg #[.i e,.i (d:Int)]) (by kernel_rfl) W (by rw[Z];rfl) r2) ?_;refine kh (i:=7) (by rfl) (by kernel_rfl) (V:=h) (v:=.bool true) (by kernel_rfl) (y0 ?_);refine wpS_seq (y1 [0] (by kernel_rfl) ?_);refine kh (i:=0) (by rfl) (by kernel_rfl) (V:=h) (v:=.bool true) (by kernel_rfl) (y0 ?_);have A:=z.drew;have T:∃a:Int,h.drew.cell? ((ad w.heap.size).add 1)=some (.i a)/\∃b:Int,h.drew.cell? ((ad w.heap.size).add 0)=some (.i b)/\aJ h.drew ((ad p).add 0) (.i a) λB=>B.cell? ((ad w.heap.size).add 0)=some (.i b)/\aJ B ((ad q).add 0) (.i b) λk=>O M w0 k ([.c p [.i (d:Int)] bn,.c q [.i e] gF]++L) D:=by refine⟨_,A.ld 0 1,_,A.ld 0 0,?_⟩;exact A.st 1 0 rfl λB C=>⟨C.ld 0 0,C.st 2 0 rfl λk N=>Vy N⟩
 refine wpS_cond (t:=true) (by kernel_rfl) (wpS_of_wp (Go.wp_mono (Z2 (n:=cx 14) (l:=[0,1,2,3,4,5]) (E:=[(2,ptr w.heap.size),(0,.pointer (some (ad p))),(1,.pointer (some (ad q)))]) (K:=λ_ k=>O M w0 k ([.c p [.i (d:Int)] bn,.c q [.i e] gF]++L) D) (by kernel_rfl) (by kernel_rfl) (by kernel_rfl) (by kernel_rfl) ⟨by kernel_rfl,by kernel_rfl,λt v j=>?_⟩ (Eq.mpr (by kernel_rfl) T)) λex a' I j=>?_))
 .have G:=get_mem j;simp only[aE,aZ,a2,Prod.mk.injEq]at G;rcases G with⟨rfl,rfl⟩|⟨rfl,rfl⟩|⟨rfl,rfl⟩<;>(show _=some _;kernel_rfl)
 .cases ex with
  |normal=>
   obtain⟨E',Q,S⟩:=j;exact⟨Q.defers,.panicking [{v:=xr e d,recovered:=true}],rfl,.tuple #[],by kernel_rfl,rfl,rfl,S⟩
  |_=>exact j.elim
def Yf{P:aw}{ops:Array Oper}{i:Nat}{rest:List Nat}{a:Act}{w V:J}{o:Oper}{Q:Exit->Act->J->Prop}{f:FuncId}{args:Array aa}(k:(ops.toList.drop i).head? =some o)(y:b3 o (yielded ops a.tmps)=true)(x:(execOp a.eval o).run P w=.ok (.enter f args) V)(d:aj P f args V λr j=>(∃v,r=ae v/\SW P ops Q rest (a.put o.dst v) j)\/∃c,r=.panicked c/\Q (.panic c) a j):SW P ops Q (i::rest) a w:=by
 constructor;have q:=o2 k;simp only[wpOps,q,y,if_true];refine .inl ?_;unfold Oper.wp;rw[x];refine Calls.mono d λr j d=>?_;rcases d with⟨v,e,d⟩|⟨c,e,d⟩
 .subst e;exact d.h
 .subst e;exact d
def Jk{P:aw}{T:aD}{p:Addr}{n:Int}{w:J}(d:P.underlying T=some (.int .i64))(e:w.cell? p=some (.i n)):(loadVar T p).run P w=.ok (.i n) w:=by simp[loadVar,isAgg,Sem.run_bind,run_underlying d,load,Sem.run,e]
def Ty{P:aw}{a:Act}{o:Oper}{w:J}{t f:Nat}{first nD:Array aa}{ts:Array aD}(e:o.op=.call ⟨.value (.tmp t),#[],ts⟩)(h:a.eval (.tmp t)=.func (.func f) first nD)(d:gI P f=true):(execOp a.eval o).run P w=.ok (.enter f (first++#[]++nD)) w:=by simp[execOp,e,resolve,h,Deferred.ofValue,invoke,rI d]
def MI{f:FuncId}{first nD:Array aa}(hf:gI U f=true){w:J}{p:Addr}{M:Nat->Prop}(hM:∀b,M b->b<w.heap.size){Q:J->aC}(hc:∀e,ah w e->e.heap.size=w.heap.size+2->aj U f (first++#[]++nD) e λr G=>(r=ae (.tuple #[])\/∃q B,r=.panicked (hl q B))/\Fr M e G/\Q e r G):
  aj U Wb #[.pointer (some p),.func (.func f) first nD] w λr G=>∃e j,ah w e/\e.heap.size=w.heap.size+2/\Fr (λb=>b=w.heap.size\/b=w.heap.size+1) j G/\
   ((r=ae (.tuple #[.i 0,.i 0])/\Q e (ae (.tuple #[])) j)\/∃q B,r=ae (.tuple #[.i ((B:Nat):Int),.i q])/\Q e (.panicked (hl q B)) j):=by
 refine calls_of_wp_defers (fn:=Tryz.f17) (by kernel_rfl) rfl ?_;obtain⟨i1,h1,s1⟩:=xA UB;obtain⟨i2,h2,s2⟩:=xA TA;obtain⟨e,H⟩:∃e,e=w.alloc (.cells #[.i 0] bn):=⟨_,rfl⟩;obtain⟨h,I⟩:∃h,h=e.alloc (.cells #[.i 0] gF):=⟨_,rfl⟩;have z1:e.heap.size=w.heap.size+1:=by rw[H];exact size_alloc _ _
 have S:h.heap.size=w.heap.size+2:=by rw[I,size_alloc,z1]
 have E:O F0 w h [.c w.heap.size [.i 0] bn,.c e.heap.size [.i 0] gF] []:=by subst I;subst H;exact((O.start [] (by simp)).alloc (.cells #[.i 0] bn)).alloc (.cells #[.i 0] gF)
 have N:ah w h:=E.fr;refine wp_seq (y3 [0,1] (by kernel_rfl) (y4 (i:=0) (by rfl) (by kernel_rfl) (V:=e) (v:=ptr w.heap.size) (by subst H;kernel_rfl) (y4 (i:=1) (by rfl) (by kernel_rfl) (V:=h) (v:=ptr e.heap.size) (by subst I;kernel_rfl) (y2 ?_))));refine wp_seq (y3 [0,1] (by kernel_rfl) (y4 (i:=0) (by rfl) (by kernel_rfl) (V:=h) (v:=.func (.func sB) #[] #[ptr w.heap.size,ptr e.heap.size]) (by kernel_rfl) (Ye (i:=1) (by rfl) (by kernel_rfl) (V:=h) (d:=⟨.fn (.func sB) #[ptr w.heap.size,ptr e.heap.size],#[]⟩) (by kernel_rfl) (y2 ?_))));refine wp_seq (y3 [0,1] (by kernel_rfl) (y4 (i:=0) (by rfl) (by kernel_rfl) (V:=h) (v:=.func (.func f) first nD) (by kernel_rfl) (Yf (i:=1) (by rfl) (by kernel_rfl) (V:=h) (f:=f) (args:=first++#[]++nD) ?_ ((hc h N S).mono ?_))))
 .exact Ty (t:=7) rfl (by kernel_rfl) hf
 rintro r j ⟨hr,f3,Y⟩;have W:O (λb=>b=w.heap.size\/b=w.heap.size+1) j j [.c w.heap.size [.i 0] bn,.c e.heap.size [.i 0] gF] []:=by
  have ab:∀b,w.heap.size<=b->b<h.heap.size->j.heap[b]? =h.heap[b]?:=λb F ac=>f3.ck b ac λhm=>by have:=hM b hm;omega
  refine O.og _ _ (λq Z=>?_) E.nd (by simp);simp only[aE,aZ,a2]at Z;rcases Z with rfl|rfl
  .exact ⟨(ab _ (be _) (by omega)).trans (E.ob 0),λb F=>.inl (by simpa[En.ob]using F)⟩
  .exact ⟨(ab _ (by omega) (by omega)).trans (E.ob 1),λb F=>.inr (by rw[<-z1];simpa[En.ob]using F)⟩
 have fin:∀(z:J) (tm:Array aa) (x y:Int) (r0:Ending),tm.getD 4 undef=ptr w.heap.size->tm.getD 5 undef=ptr e.heap.size->O (λb=>b=w.heap.size\/b=w.heap.size+1) j z [.c w.heap.size [.i x] bn,.c e.heap.size [.i y] gF] []->
   (results Tryz.f17 tm).run U z=.ok (.tuple #[.i x,.i y]) z:=λz tm x y r0 t4 t5 A=>by have l1:=Jk (P:=U) (T:=bn) (by kernel_rfl) (A.cm 0);have l2:=Jk (P:=U) (T:=gF) (by kernel_rfl) (A.cm 1);rw[D4];have af:(Tryz.f17).results=#[.cell 4 bn,.cell 5 gF]:=rfl;rw[af];simp[n9,t4,t5,asAddr,l1,l2]
 rcases hr with rfl|⟨q,B,rfl⟩
 .refine .inl ⟨_,rfl,y2 ?_⟩;obtain⟨k,r4,C⟩:∃k,(storeCells (ad w.heap.size) [.i 0] 0).run U j=.ok () k/\O (λb=>b=w.heap.size\/b=w.heap.size+1) j k [.c w.heap.size [.i 0] bn,.c e.heap.size [.i 0] gF] []:=
   tj (P:=U) (p:=ad w.heap.size) (i:=0) (vs:=[.i 0]) (K:=λk=>O (λb=>b=w.heap.size\/b=w.heap.size+1) j k [.c w.heap.size [.i 0] bn,.c e.heap.size [.i 0] gF] []) rfl (W.st 0 0 rfl λk C=>C)
  obtain⟨D,r5,H5⟩:∃D,(storeCells (ad e.heap.size) [.i 0] 0).run U k=.ok () D/\O (λb=>b=w.heap.size\/b=w.heap.size+1) j D [.c w.heap.size [.i 0] bn,.c e.heap.size [.i 0] gF] []:=
   tj (P:=U) (p:=ad e.heap.size) (i:=0) (vs:=[.i 0]) (K:=λk=>O (λb=>b=w.heap.size\/b=w.heap.size+1) j k [.c w.heap.size [.i 0] bn,.c e.heap.size [.i 0] gF] []) rfl (C.st 1 0 rfl λk C=>C)
  refine wp_seq (y3 [0,1] (by kernel_rfl) (Oy (i:=0) (by rfl) (by kernel_rfl) (V:=k) (zi (by rfl) (by kernel_rfl) (v:=.i 0) (by kernel_rfl) h1 (by rw[s1];rfl) r4) (Oy (i:=1) (by rfl) (by kernel_rfl) (V:=D) (zi (by rfl) (by kernel_rfl) (v:=.i 0) (by kernel_rfl) h2 (by rw[s2];rfl) r5) (y2 ?_))));refine wp_ret ?_;refine leaves_cons (f:=sB) (args:=#[ptr w.heap.size,ptr e.heap.size]) (by simp) (by kernel_rfl) ?_;refine(Yb (ad w.heap.size) (ad e.heap.size) D).mono ?_;rintro _ _ z ⟨rfl,rfl,f6⟩;have A:=H5.cd f6;refine⟨.tuple #[.i 0,.i 0],?_,h,j,N,S,A.fr,.inl ⟨rfl,Y⟩⟩;refine fin z _ 0 0 .outgrown ?_ ?_ A
  .kernel_rfl
  .kernel_rfl
 .refine .inr ⟨_,rfl,?_⟩;refine leaves_cons (f:=sB) (args:=#[ptr w.heap.size,ptr e.heap.size]) (by simp) (by kernel_rfl) ?_;refine(X' w.heap.size e.heap.size (.i 0) (.i 0) q B (L:=[]) W).mono ?_;rintro _ u z ⟨rfl,hu,A⟩;show Leaves _ _ _ _ _ (settle u) z;rw[hu];refine⟨.tuple #[.i (B:Int),.i q],?_,h,j,N,S,A.fr,.inr ⟨q,B,rfl,Y⟩⟩;refine fin z _ _ _ .outgrown ?_ ?_ A
  .kernel_rfl
  .kernel_rfl
def Qb(d:Nx):∀(g:List Nx) (k:Nat),eO (g++[d]) k=eO g k++(if d.op=0 then[(bl d.tx,k+g.length)]else[])
 |[],k=>by show(if d.op=0 then(bl d.tx,k)::[]else[])=[]++_;rw[List.nil_append];rfl
 |e::g,k=>by have h:=Qb d g (k+1);show(if e.op=0 then(bl e.tx,k)::eO (g++[d]) (k+1)else eO (g++[d]) (k+1))=(if e.op=0 then(bl e.tx,k)::eO g (k+1)else eO g (k+1))++_;rw[h,cT,show k+1+g.length=k+(g.length+1)by omega];split<;>rfl
def px(g:List Nx)(i:Nat):List UInt8×Nat:=(bl (g.getD i (yr 0)).tx,i)
def tH(g:List Nx):eO g 0=((List.range g.length).filter (fR g)).map (px g):=by
 have main:∀n,n<=g.length->eO (g.take n) 0=((List.range n).filter (fR g)).map (px g):=by
  intro n;induction n with
  |zero=>intro _;rfl
  |succ n q=>
   intro w;have h:g[n]? =some (g[n]'(by omega)):=a5 (by omega);generalize g[n]'(by omega)=d at h;have k:g.take (n+1)=g.take n++[d]:=by rw[g3,h];rfl
   rw[k,Qb,q (by omega),List.range_succ,List.filter_append,dX,fx,Nat.min_eq_left (by omega)];congr 1;have j:fR g n=ao (d.op=0):=by unfold fR;rw[h]
   by_cases e:d.op=0
   .rw [ag e,List.filter_cons,j,ag (aM e)];show[(bl d.tx,0+n)]=[px g n];unfold px;rw[List.getD_eq_getElem?_getD,h,Nat.zero_add];rfl
   .rw [ab e,List.filter_cons,j,ab (by simp[e])];rfl
 have:=main g.length (be _)
 rwa[List.take_length]at this
def E0{g:List Nx}{j i:Nat}(k:((List.range g.length).filter (fR g))[j]? =some i):∃e,g[i]? =some e/\e.op=0/\px g i=(bl e.tx,i):=by
 have d:=aB k;rw[List.mem_filter,List.mem_range]at d;have h:g[i]? =some (g[i]'d.1):=a5 d.1;refine⟨_,h,?_,?_⟩
 .have:=d.2;unfold fR at this;rw[h]at this;simpa using this
 .unfold px;rw[List.getD_eq_getElem?_getD,h];rfl
def P'{g:List Nx}(e:Vg g):g.Nodup:=by
 induction e with
 |nil=>exact List.nodup_nil
 |@snoc g n w x k q=>
  rw[dL];exact⟨q,by simp,λa h b j d=>by rw[bX.1 j]at d;exact k (d▸h)⟩
def Qa{g:List Nx}(h:Vg g){i j:Nat}{d e:Nx}(hi:g[i]? =some d)(k:g[j]? =some e)(q:d.op=0)(w:e.op=0)(x:d.tx=e.tx):i=j:=by have z:=h.vars d (aB hi) q e (aB k) w x;have y:=var_eq (h.vV i d hi) (h.vV j e k) q w x z;exact(List.getElem?_inj (cr.1 hi).1 (P' h)).1 (by rw[hi,k,y])
def ZV{g:List Nx}(z:Vg g){j i:Nat}{d:Nx}(B:((List.range g.length).filter (fR g))[j]? =some i)(hd:g[i]? =some d)(A:d.op=0):lk ((eO g 0).take j) (bl d.tx)=none:=by
 cases C:lk ((eO g 0).take j) (bl d.tx)with
 |none=>rfl
 |some G=>
  obtain⟨k,e⟩:=List.mem_iff_getElem?.1 (jb C);rw[tH,<-List.map_take,qG,List.getElem?_take]at e;split at e
  .rename_i H;cases h:((List.range g.length).filter (fR g))[k]? with
   |none=>rw[h]at e;cases e
   |some F=>
    rw[h]at e;obtain⟨q,w,x,y⟩:=E0 h;have e:px g F=(bl d.tx,G):=by simpa using e
    rw[y]at e;have E:bl q.tx=bl d.tx:=congrArg Prod.fst e;have:=Qa z w hd x A (by have:=congrArg ba E;rwa[jx,jx]at this);subst this;have D:((List.range g.length).filter (fR g)).Nodup:=List.Nodup.sublist List.filter_sublist List.nodup_range;have:k=j:=(List.getElem?_inj (cr.1 h).1 D).1 (h.trans B.symm);omega
  .cases e
def WJ{w0 w:J}{m:Nat}{es:Array MapEntry}{clock:Nat}{ms:List (ByteArray×aa)}(H:O F0 w0 w [.ob m (.map es clock)] [])(y:eG es ms){k:ByteArray}{v:aa}(z:kS ms k=none){K:J->Prop}(q:∀d e h,O F0 w0 d [.ob m (.map e h)] []->eG e (ms++[(k,v)])->K d):∃d,Sem.run U (Instr.mapUpdate EU (.map (some m)) (.string k) v) w=.ok () d/\K d:=by obtain⟨d,e,A,B,C,D,E⟩:=tD Ch (H.ob 0) y k v z;exact⟨d,A,q d e _ (H.fC 0 (.ob m (.map e (clock+1))) rfl (D.mono λF _ j=>by simp[En.ob,j]) B λb x=>.inl x) C⟩
def uf(w:J):aj U KL #[] w λr j=>(∃m e c,r=ae (.map (some m))/\w.heap.size<=m/\j.heap[m]? =some (.map e c)/\eG e qB)/\ah w j:=by
 refine MO.ok w _ (j' (bO [] (by simp)) λk d=>?_);have h:eG #[] []:=rfl
 iterate 26 (refine WJ d h ?_ ?_;kernel_rfl;clear d h;intro k e c d h)
 exact⟨⟨_,e,c,rfl,be _,d.ob 0,h⟩,d.fr⟩
def sU{a x y d e h j k:En}(q:List.Perm [x,y,d] [h,j,k]):List.Perm [a,x,y,d,e] [a,e,h,j,k]:=((List.perm_append_comm (l₁:=[x,y,d]) (l₂:=[e])).trans (q.cons e)).cons a
abbrev j7(rb e h d:Nat)(j g:Sl):RC:=⟨rb,j,⟨none,0,0⟩,e,h,d,g,none,9223372036854775807,0⟩
def tQ(w:J)(z g:Sl)(vs:List (List UInt8×Nat))(x:List Nx)(r:Ending)(V:J):Prop:=∃(rb j k h:Nat) (d e:Array MapEntry) (q y:Nat),r=ae (.pointer (some (ad rb)))/\eG d qB/\eG e (vs.map hS)/\O F0 w V [bf (j7 rb j k h z g) ⟨0,0,x⟩,.ob j (.map d q),.ob k (.map e y),.ob h (.map #[] 0)] []
def Gp{w:J}{A g:Sl}{l:List Nd}(al:GP w g l)(hv:Vg (xs l))(hn:l.length<=4096):aj U KK #[A.v,.agg #[g.v]] w (tQ w A g (eO (xs l) 0) (xs l)):=by
 have ag:O F0 w w [] [.gr g l]:=bO _ (by intro aa he;rw[bX.1 he];exact bc.2 al);have aC:(xs l).length=l.length:=by simp[xs]
 have fin:∀{h:J} {C rb q z E:Nat} {y:Array MapEntry} {D:Nat},eG y qB->O F0 w h [.g C,bf (j7 rb q z E A g) ⟨0,0,xs l⟩,.ob q (.map y D),.ob z (.map #[] 0),.ob E (.map #[] 0)] [.gr g l]->sO.aX C g (ad rb) h (tQ w A g (eO (xs l) 0) (xs l)):=by
  intro h C rb q z E y D k d;refine d.gY (RG (bc.1 (d.getD 0)) (by unfold eF;omega)) ?_;rintro _ M ⟨F,rfl,ac,ao⟩ e F7;have e:=F7.own (.row bn 1 F ((tF (xs l)).map ct)) ac ao;have aw:=qz ac;rw[EZ,mb]at aw;have az:((List.range (xs l).length).filter (fR (xs l))).length<=4096:=bp (List.length_filter_le _ _) (by rw[List.length_range];omega);have loop:∀(n i:Nat) (G:J) (es:Array MapEntry) (c:Nat),i+n=F.n->eG es (((eO (xs l) 0).take i).map hS)->O F0 w G [.g C,bf (j7 rb q z E A g) ⟨0,0,xs l⟩,.ob q (.map y D),.ob z (.map es c),.ob E (.map #[] 0),.row bn 1 F ((tF (xs l)).map ct)] [.gr g l]->
    sO.b5 C g (ad rb) F ((F.n:Nat):Int) (i:Int) G (tQ w A g (eO (xs l) 0) (xs l)):=by
   intro n;induction n with
   |zero=>
    intro i G es c hi N j;have am:(eO (xs l) 0).take i=eO (xs l) 0:=dM (by rw[tH,mb];omega);rw[am]at N;exact sO.dy _ _ _ _ _ _ _ _ (aV (aP (by omega)) ⟨rb,q,z,E,y,es,D,c,rfl,k,N,(j.lH [false,true,true,true,true]).forget [] (by simp)⟩)
   |succ n ih=>
    intro i G es c hi N j;have W:i<((List.range (xs l).length).filter (fR (xs l))).length:=by omega
    have L:((List.range (xs l).length).filter (fR (xs l)))[i]? =some (((List.range (xs l).length).filter (fR (xs l)))[i]'W):=a5 W;generalize((List.range (xs l).length).filter (fR (xs l)))[i]'W=v at L;obtain⟨ak,S,g2,g3⟩:=E0 L;have Y:v<l.length:=by have:=(cr.1 S).1;omega
    have T:l[v]? =some (l[v]'Y):=a5 Y;generalize l[v]'Y=nd at T;have an:nd.x=ak:=by have:=ou T;rw[S]at this;exact(Option.some.inj this).symm
    subst an;have ax:((tF (xs l)).map ct)[i]? =some (ct (v:Int)):=by rw[EZ,List.map_map,qG,L];rfl
    refine sO.dy _ _ _ _ _ _ _ _ (aT (aM (by omega)) (XV (j.get 5) rfl ax λp hp hc=>⟨(v:Int),hc,j.af λw9 K=>⟨_,K.ld 1 5,e4 (bc.1 (K.getD 0)) rfl T λaD aB ai=>⟨nd.x.tx,ai.c5,?_⟩⟩⟩));obtain⟨ae,ab,u1,u2,u3,u4,u5⟩:=tD sw (K.ob 3) N nd.x.tx (.i (v:Int)) (by have:=ZV hv L S g2;have e1:nd.x.tx=ba (bl nd.x.tx):=(jx _).symm;rw[e1,Qc,this];rfl)
    have ah:=K.fC 3 (.ob z (.map ab (c+1))) rfl (u4.mono λaE _ aa=>by simp[En.ob,aa]) u2 λb V=>.inl V;refine⟨ae,u1,EX K 3 rfl u4,?_⟩;rw[bw _ (by omega)];refine ih (i+1) ae ab (c+1) (by omega) ?_ ah;have ht:(eO (xs l) 0)[i]? =some (bl nd.x.tx,v):=by rw[tH,qG,L,<-g3];rfl
    rw[tw ht,dX];have e2:([(bl nd.x.tx,v)]:List (List UInt8×Nat)).map hS=[(nd.x.tx,.i (v:Int))]:=by show[(ba (bl nd.x.tx),_)]=_;rw[jx]
    rw[e2];exact u3
  exact⟨_,rfl,loop F.n 0 M #[] 0 (by omega) rfl e⟩
 refine sO.au A g w _ (ag.ay λC w1 P=>⟨P.af λZ H=>H.gY (uf Z) ?_,P.af λZ H=>j' H λw3 I=>⟨I.gY (uf w3) ?_,j' I λw4 Q=>Q.gY (uf w4) ?_⟩,P.af λZ H=>j' H λw3 I=>⟨I.gY (uf w3) ?_,j' I λw4 Q=>Q.gY (uf w4) ?_⟩⟩);all_goals rintro _ w5 ⟨q,y,D,rfl,aA,ap,k⟩ _ F5
 all_goals have B:=F5.own (.ob q (.map y D)) ap (λb V=>by simp[En.ob]at V;omega)
 .refine ⟨_,rfl,j' B λh d=>j' d λM e=>e.nw λG av j=>?_,j' B λh d=>j' d λM e=>e.nw λG av j=>?_⟩
  .exact fin k (lA j (sU (List.Perm.refl _)))
  .exact fin k (lA j (sU ((List.Perm.swap _ _ _).cons _)))
 .exact ⟨_,rfl,j' B λh d=>d.nw λM ar e=>fin k (lA e (sU (List.Perm.swap _ _ _)))⟩
 .exact ⟨_,rfl,B.nw λh aq d=>fin k (lA d (sU (List.perm_append_comm (l₁:=[_,_]) (l₂:=[_]))))⟩
 .exact ⟨_,rfl,j' B λh d=>d.nw λM ar e=>fin k (lA e (sU (List.perm_append_comm (l₁:=[_]) (l₂:=[_,_]))))⟩
 .exact ⟨_,rfl,B.nw λh aq d=>fin k (lA d (sU (List.reverse_perm [_,_,_]).symm))⟩
inductive Lex:Nat->List UInt8->List aR->Prop
 |fin {i:Nat} {l:List UInt8}:gd (l.drop (cG false l))=.fin->Lex i l [⟨6,[],i+cG false l⟩]
 |tok {i:Nat} {l:List UInt8} {kd:Int} {t:List UInt8} {u:Nat} {L:List aR}:gd (l.drop (cG false l))=.tok kd t u->Lex (i+cG false l+u) ((l.drop (cG false l)).drop u) L->Lex i l (⟨kd,t,i+cG false l⟩::L)
def I4:∀(n i:Nat) (l:List UInt8) (L:List aR),l.length<n->kZ n i l=.ok L->Lex i l L
 |0,i,l,L,q,_=>by omega
 |n+1,i,l,L,q,d=>by
  unfold kZ at d;simp only[]at d;have x:=m' false l;cases e:gd (l.drop (cG false l))with
  |fin=>rw[e]at d;cases d;exact .fin e
  |bad a k=>rw[e]at d;cases d
  |tok z t u=>
   rw[e]at d;simp only[]at d;obtain⟨_,y,w,_⟩:=ym e;rw[e8]at w;cases h:kZ n (i+cG false l+u) ((l.drop (cG false l)).drop u)with
   |bad a k=>rw[h]at d;cases d
   |ok j=>
    rw[h]at d;cases d;exact .tok e (I4 n _ _ j (by simp;omega) h)
def ZA{i:Nat}{l:List UInt8}{L:List aR}(e:Lex i l L):∀n,l.length<n->kZ n i l=.ok L:=by
 induction e with
 |fin d=>
  intro n e;obtain⟨n,rfl⟩:∃m,n=m+1:=⟨n - 1,by omega⟩;unfold kZ;simp only[d]
 |@tok i l w t u L d _ j=>
  intro n e;obtain⟨n,rfl⟩:∃m,n=m+1:=⟨n - 1,by omega⟩;unfold kZ;have k:=m' false l;obtain⟨_,q,h,_⟩:=ym d;rw[e8]at h;simp only[d,j n (by simp;omega)];rfl
def Vq{l:List UInt8}{L:List aR}(d:tokens l=.ok L):Lex 0 l L/\l.length<=65536:=by
 unfold tokens at d;split at d
 .cases d
 .exact ⟨I4 _ _ _ _ (Nat.lt_succ_self _) d,by omega⟩
def of_lex{l:List UInt8}{L:List aR}(d:Lex 0 l L)(e:l.length<=65536):tokens l=.ok L:=by unfold tokens;rw[ab (by omega)];exact ZA d _ (Nat.lt_succ_self _)
def UN{l:List UInt8}{d:UInt8}{v:Nat}(e:dH l=.ok d v):(∀r,dH (l.take v++r)=.ok d v)/\(10:UInt8)∉l.take v:=by
 have y:∀c:UInt8,cw 16 c=true->c≠10:=λc=>lY (p:=λc=>cw 16 c=true->c≠10) (by decide+kernel) c;cases l with
 |nil=>cases e
 |cons c l=>
  unfold dH at e;simp only at e;split at e
  .rename_i h;split at e
   .cases e
   .rename_i z;cases e;refine⟨λr=>?_,?_⟩
    .show dH (d::r)=_;unfold dH;simp only;rw[ag h,ab z]
    .simp only[List.take_succ_cons,List.take_zero,aE,aZ,a2];rintro rfl;exact z (.inl (by decide))
  .rename_i h;have q:(10:UInt8)≠c:=by rintro rfl;exact h (by decide)
   cases l with
   |nil=>cases e
   |cons k l=>
    simp only at e;split at e
    .rename_i j;cases e;refine⟨λr=>?_,?_⟩
     .show dH (c::d::r)=_;unfold dH;simp only;rw[ab h,ag j]
     .have:(10:UInt8)≠d:=by rintro rfl;revert j;decide
      simp[q,this]
    .rename_i j;split at e
     .cases e
     .rename_i A;have D:(10:UInt8)≠k:=by rintro rfl;revert A;decide
      cases l with
      |nil=>cases e
      |cons B l=>
       simp only at e;split at e
       .rename_i w;cases l with
        |nil=>cases e
        |cons C l=>
         simp only at e;split at e
         .rename_i x;cases e;refine⟨λr=>?_,?_⟩
          .show dH (c::k::B::C::r)=_;unfold dH;simp only;rw[ab h,ab j,ab A,ag w,ag x]
          .simp [q,D,(y B w).symm,(y C x).symm]
         .cases e
       .cases e
def Nn:∀(n:Nat) (l:List UInt8),l.length<n->∀(t:List UInt8) (u:Nat),qu l=.ok t u->(∀r,qu (l.take u++r)=.ok t u)/\(10:UInt8)∉l.take u
 |0,l,d=>by omega
 |n+1,[],_=>by intro a h d;unfold qu at d;cases d
 |n+1,c::l,x=>by
  intro t u d;by_cases e:c.toNat=34
  .unfold qu at d;rw[ag e]at d;cases d;refine⟨λr=>?_,?_⟩
   .show qu (c::r)=_;unfold qu;rw[ag e]
   .simp only[List.take_succ_cons,List.take_zero,aE,aZ,a2];rintro rfl;revert e;decide
  .rw [vz c l e]at d;cases j:dH (c::l)with
   |bad E G=>rw[j]at d;cases d
   |ok F v=>
    rw[j]at d;simp only at d;have y:=xC j;obtain⟨z,A⟩:=UN j;cases q:qu ((c::l).drop v)with
    |bad a h=>rw[q]at d;cases d
    |ok H k=>
     rw[q]at d;cases d;obtain⟨B,D⟩:=Nn n _ (by simp at x ⊢;omega) _ _ q;have h:(c::l).take (v+k)=(c::l).take v++((c::l).drop v).take k:=List.take_add;refine⟨λr=>?_,?_⟩
     .rw [h,hr];have w:=z (((c::l).drop v).take k++r);have C:=B r;generalize((c::l).drop v).take k++r=X at *;obtain⟨v,rfl⟩:∃m,v=m+1:=⟨v - 1,by omega⟩;rw[List.take_succ_cons,sW]at w ⊢;rw[vz _ _ e,w];simp only[List.drop_succ_cons];have hlen:(l.take v).length=v:=by simp at y ⊢;omega
      rw[List.drop_append_of_le_length (by omega),de (by omega),List.nil_append,C];rfl
     .rw [h,aL];exact λd=>d.elim A D
def Dp(k:Int)(r:List UInt8):Prop:=(k=0\/k=1\/k=5)\/r=[]\/∃d e,r=d::e/\l6 d=true
def Ib(x:UInt8):l6 x=true->bL x=false:=lY (p:=λx=>l6 x=true->bL x=false) (by decide+kernel) x
def ZX(x:UInt8):bL x=true->x≠10:=lY (p:=λx=>bL x=true->x≠10) (by decide+kernel) x
def O2(x:UInt8):hy x=true->bL x=true/\kT x=false/\x.toNat≠59:=lY (p:=λx=>hy x=true->bL x=true/\kT x=false/\x.toNat≠59) (by decide+kernel) x
def Cg:∀(t r:List UInt8),(∀d∈t,bL d=true)->(r=[]\/∃d k,r=d::k/\bL d=false)->(t++r).takeWhile bL=t
 |[],r,_,e=>by
  rcases e with rfl|⟨d,k,rfl,h⟩
  .rfl
  .simp [h]
 |c::t,r,j,e=>by rw[sW,List.takeWhile_cons,ag (j c (by simp)),Cg t r (λd h=>j d (by simp[h])) e]
def Jq(p:UInt8->Bool):∀l:List UInt8,l.take (l.takeWhile p).length=l.takeWhile p
 |[]=>rfl
 |c::l=>by
  rw[List.takeWhile_cons];split
  .rw [cT,List.take_succ_cons,Jq p l]
  .rfl
def Jp(p:UInt8->Bool):∀(l:List UInt8),∀e∈l.takeWhile p,p e=true
 |[],e,d=>by simp at d
 |c::l,e,d=>by
  rw[List.takeWhile_cons]at d;split at d
  .rcases aE.1 d with rfl|d
   .assumption
   .exact Jp p l e d
  .simp at d
structure Fk(l:List UInt8)(k:Int)(t:List UInt8)(u:Nat):Prop where
 loc:∀r,Dp k r->gd (l.take u++r)=.tok k t u
 ten:(10:UInt8)∉l.take u
 tail:Dp k (l.drop u)
 word:(k=2\/k=3\/k=4)->l.take u=t
 kind:k=0/\t=[]\/k=1/\t=[]\/k=2\/k=3\/k=4\/k=5/\t.length<u
 skip:∀r,cG false (l.take u++r)=0
def Wj{l:List UInt8}{k:Int}{t:List UInt8}{u:Nat}(d:gd l=.tok k t u):Fk l k t u:=by
 cases l with
 |nil=>unfold gd at d;cases d
 |cons c l=>
  unfold gd at d;simp only at d;split at d
  .rename_i B;cases d;have w:c=40:=UInt8.toNat_inj.1 B;subst w;exact⟨λr _=>rfl,by simp,.inl (.inl rfl),by omega,.inl ⟨rfl,rfl⟩,λr=>rfl⟩
  .rename_i B;split at d
   .rename_i C;cases d;have w:c=41:=UInt8.toNat_inj.1 C;subst w;exact⟨λr _=>rfl,by simp,.inl (.inr (.inl rfl)),by omega,.inr (.inl ⟨rfl,rfl⟩),λr=>rfl⟩
   .rename_i C;split at d
    .rename_i A;have w:c=34:=UInt8.toNat_inj.1 A;subst w;split at d
     .rename_i t' E I;cases d;obtain⟨V,W⟩:=Nn _ l (Nat.lt_succ_self _) _ _ I;have q3:=DP _ l (Nat.lt_succ_self _) _ _ I;have h:(34::l).take (1+E)=34::l.take E:=by rw[Nat.add_comm];rfl
      refine⟨λr _=>?_,?_,.inl (.inr (.inr rfl)),by omega,.inr (.inr (.inr (.inr (.inr ⟨rfl,by omega⟩)))),λr=>?_⟩
      .rw [h];show gd (34::(l.take E++r))=_;unfold gd;simp only;rw[ab (by decide),ab (by decide),ag (by decide),V r]
      .rw [h];simp only[aE];exact λd=>d.elim (by decide) W
      .rw [h];rfl
     .cases d
    .rename_i A;split at d
     .rename_i L;obtain⟨S,O,P⟩:=O2 c L;have y:(c::l).take ((c::l).takeWhile bL).length=(c::l).takeWhile bL:=Jq _ _;have F:=Jp bL (c::l);have G:(c::l).takeWhile bL=c::l.takeWhile bL:=by rw[List.takeWhile_cons,ag S]
      have main:∀z:Int,ft ((c::l).takeWhile bL)=(z,0)->Dp z ((c::l).drop ((c::l).takeWhile bL).length)->Fk (c::l) z ((c::l).takeWhile bL) ((c::l).takeWhile bL).length:=by
       intro z j Q;have Y:=HY j;refine⟨λr N=>?_,?_,Q,λ_=>y,by omega,λr=>?_⟩
       .have K:r=[]\/∃e q,r=e::q/\l6 e=true:=N.resolve_left (by omega);have M:=Cg _ r F (K.imp id λ⟨e,q,h,x⟩=>⟨e,q,h,Ib e x⟩);rw[y];generalize(c::l).takeWhile bL=T at *;subst G;rw[sW]at M ⊢;unfold gd;simp only;rw[ab B,ab C,ab A,ag L,M,j];simp only[ne_eq,not_true_eq_false,if_false];rw[<-sW,yM];rcases K with rfl|⟨e,q,rfl,x⟩
        .rfl
        .simp only[x,if_true]
       .rw [y];exact λd=>ZX _ (F _ d) rfl
       .rw [y,G];show cG false (c::_)=0;unfold cG;rw[O,ab P];rfl
      cases j:ft ((c::l).takeWhile bL)with
      |mk Z h=>
       rw[j]at d;simp only at d;split at d
       .cases d
       .rename_i H;simp only[ne_eq,Decidable.not_not]at H;subst H;split at d
        .rename_i D;cases d;exact main _ j (.inr (.inl D))
        .rename_i e q D;split at d
         .rename_i x;cases d;exact main _ j (.inr (.inr ⟨e,q,D,x⟩))
         .cases d
     .cases d
structure tW(k:Int)(t:List UInt8):Prop where
 kd:0<=k/\k<=5
 i:k=4->1<=t.length/\t.length<=13/\jr 10 t
 n:k=3->∃d,(t=35::98::d/\1<=d.length/\d.length<=64/\jr 2 d)\/(t=35::120::d/\1<=d.length/\d.length<=16/\jr 16 d)
def Bc{b:Nat}(h:b=2\/b=10\/b=16){l:List UInt8}(e:l.all (cw b)=true):jr b l:=λc j=>by
 have d:=dK.1 e c j;unfold cw at d;unfold ep;rcases h with rfl|rfl|rfl
 .rw [ag rfl]at d;simp at d;split<;>omega
 .rw [ab (by decide),ab (by decide)]at d;simp at d;split<;>omega
 .rw [ab (by decide),ag rfl]at d;simp at d;split<;>omega
def EV{c:UInt8}{n:Nat}(d:c.toNat=n)(e:n<256):c=dw n:=by apply UInt8.toNat.inj;rw[d,UInt8.toNat_ofNat'];exact(Nat.mod_eq_of_lt e).symm
def HX{t:List UInt8}{k:Int}(d:ft t=(k,0)):tW k t:=by
 unfold ft at d;split at d
 .cases d
 .rename_i c l;split at d
  .split at d
   .cases d
   .split at d
    .cases d
    .cases d;exact⟨by omega,λd=>(by cases d),λd=>(by cases d)⟩
  .split at d
   .split at d
    .cases d
    .rename_i e;split at d
     .cases d
     .rename_i x;cases d;refine⟨by omega,λ_=>⟨by simp,by omega,Bc (.inr (.inl rfl)) ?_⟩,λd=>(by cases d)⟩;simp only[Bool.or_eq_true,not_or,iX,Bool.not_eq_false']at e;exact e.1
   .rename_i h;have h:c=35:=EV (n:=35) (by omega) (by omega);unfold r4 at d;split at d
    .rename_i b q r;split at d
     .rename_i j;split at d
      .rename_i e;split at d
       .cases d
       .rename_i w;cases d;refine⟨by omega,λd=>(by cases d),λ_=>⟨q::r,.inl ⟨by rw[h,EV j (by omega)];rfl,by simp,by omega,Bc (.inl rfl) e⟩⟩⟩
      .cases d
     .split at d
      .rename_i j;split at d
       .rename_i e;split at d
        .cases d
        .rename_i w;cases d;refine⟨by omega,λd=>(by cases d),λ_=>⟨q::r,.inr ⟨by rw[h,EV j (by omega)];rfl,by simp,by omega,Bc (.inr (.inr rfl)) e⟩⟩⟩
       .cases d
      .cases d
    .cases d
def LX{l:List UInt8}{k:Int}{t:List UInt8}{u:Nat}(d:gd l=.tok k t u):tW k t:=by
 have h:∀(k:Int),(k=0\/k=1\/k=5)->∀t,tW k t:=λk x t=>⟨by omega,λd=>by omega,λd=>by omega⟩;cases l with
 |nil=>unfold gd at d;cases d
 |cons c l=>
  unfold gd at d;simp only[]at d;split at d
  .cases d;exact h 0 (.inl rfl) _
  split at d
  .cases d;exact h 1 (.inr (.inl rfl)) _
  split at d
  .split at d
   .cases d;exact h 5 (.inr (.inr rfl)) _
   .cases d
  split at d
  .generalize j:ft ((c::l).takeWhile bL)=q at d;obtain⟨y,w⟩:=q;split at d
   .cases d
   .rename_i e;have e:w=0:=Classical.byContradiction e;subst e;split at d
    .cases d;exact HX j
    .split at d
     .cases d;exact HX j
     .cases d
  .cases d
def Vp{i:Nat}{l:List UInt8}{L:List aR}(d:Lex i l L):L.length<=l.length+1/\∀t∈L,(t.kind=6\/tW t.kind t.text)/\t.text.length<=l.length/\t.a3<=i+l.length:=by
 induction d with
 |@fin i l h=>
  have w:=m' false l;exact⟨by simp,λt x=>by rw[bX.1 x];exact⟨.inl rfl,by simp,by show i+cG false l<=_;omega⟩⟩
 |@tok i l C t u L h _ z=>
  have w:=m' false l;obtain⟨_,B,y,_⟩:=ym h;rw[e8]at y;obtain⟨q,k⟩:=z;simp only[e8]at q k;refine⟨by rw[cT];omega,λA j=>?_⟩;rcases aE.1 j with rfl|j
  .have e:=Wj h;refine⟨.inr (LX h),?_,by show i+cG false l<=_;omega⟩;show t.length<=l.length;rcases e.kind with⟨_,rfl⟩|⟨_,rfl⟩|d|d|d|⟨_,d⟩
   .simp
   .simp
   .have:=congrArg List.length (e.word (.inl d));rw[fx,e8]at this;omega
   .have:=congrArg List.length (e.word (.inr (.inl d)));rw[fx,e8]at this;omega
   .have:=congrArg List.length (e.word (.inr (.inr d)));rw[fx,e8]at this;omega
   .omega
  .obtain ⟨a,b,c⟩:=k A j;exact⟨a,by omega,by omega⟩
def Vr{i:Nat}{l:List UInt8}{L:List aR}(q:Lex i l L):∃e t,L=e++[t]/\t.kind=6/\∀h∈e,h.kind≠6:=by
 induction q with
 |fin j=>exact⟨[],_,rfl,rfl,λh d=>(by cases d)⟩
 |@tok i l z t u L j _ y=>
  obtain⟨e,A,k,w,x⟩:=y;refine⟨_::e,A,by rw[k];rfl,w,λh d=>?_⟩;rcases aE.1 d with rfl|d
  .have:=(LX j).kd;show z≠6;omega
  .exact x h d
def zr{l:List UInt8}{T:List aR}(d:tokens l=.ok T):iy T:=by
 obtain⟨j,x⟩:=Vq d;obtain⟨y,k⟩:=Vp j;have h:∀t∈T,tW t.kind t.text\/t.kind=6:=λt e=>(k t e).1.symm;refine⟨Vr j,λt e=>?_,λt e w=>?_,λt e q=>?_,by omega,λt e=>?_⟩
 .rcases h t e with d|d
  .have:=d.kd;omega
  .omega
 .rcases h t e with d|d
  .exact d.i w
  .omega
 .rcases h t e with d|d
  .exact d.n q
  .omega
 .obtain ⟨_,a,b⟩:=k t e;exact⟨by omega,by omega⟩
def NE{α:Type}(x:PR α):Prop:=∀d p,x=.er d p->d≠0
def fK{α:Type}{a:α}{s:aI}:NE (.ok a s):=λ_ _ d=>(by cases d)
def iM{α:Type}{e:Int}{p:Nat}(d:e≠0):NE (α:=α) (.er e p):=λ_ _ h=>(by cases h;exact d)
def sF{α:Type}(t:aR):NE (α:=α) (jl t):=iM (by split<;>decide)
def ed{α β:Type}{x:PR α}{f:α->aI->PR β}(h:NE x)(e:∀a s,NE (f a s)):NE (x.b f):=by
 cases x with
 |ok a s=>exact e a s
 |er d p=>exact iM (h d p rfl)
def hM(T:List aR)(k:Int)(s:aI):NE (bM T k s):=by
 unfold bM;split
 .exact fK
 .exact sF _
def mZ(T:List aR)(s:aI):NE (dm T s):=ed (hM _ _ _) λ_ _=>fK
def C'(T:List aR)(s:aI):NE (ic T s):=by
 refine ed (hM _ _ _) λt s=>ed (hM _ _ _) λd s=>?_;split
 .exact sF _
 .refine ed ?_ λe s=>ed (mZ _ _) λn s=>ed (hM _ _ _) λ_ s=>?_
  .split
   .exact mZ _ _
   .exact fK
  .split
   .exact fK
   .exact iM (by decide)
def Wg(T:List aR)(s:aI):NE (pa T s):=by
 refine ed (hM _ _ _) λt s=>?_;split
 .exact fK
 .rename_i d;exact iM d
def yk(s:aI)(n:Nx)(t:aR):NE (eR s n t):=by
 unfold eR;split
 .exact fK
 .rename_i d;exact iM d
def CZ{tm:aI->PR Nat}(d:∀s,NE (tm s)):∀(n:Nat) (s:aI),NE (ho tm n s)
 |0,_=>fK
 |n+1,s=>ed (d s) λ_ s=>ed (CZ d n s) λ_ _=>fK
def Wf(T:List aR)(w:List UInt8)(s:aI):NE (i7 T w s):=by
 unfold i7;split
 .exact ed (mZ _ _) λ_ _=>ed (mZ _ _) λ_ _=>fK
 split
 .exact ed (C' _ _) λ_ _=>fK
 split
 .exact ed (mZ _ _) λ_ _=>ed (mZ _ _) λ_ _=>fK
 split
 .exact ed (mZ _ _) λ_ _=>fK
 split
 .exact ed (mZ _ _) λ_ _=>fK
 split
 .exact ed (mZ _ _) λ_ _=>fK
 split
 .exact ed (Wg _ _) λ_ _=>fK
 .exact fK
def LO{tm:bS->aI->PR Nat}(d:∀E s,NE (tm E s))(E:bS)(m:PM)(az:List Int)(s:aI):NE (iD tm E m az s):=ed (d _ _) λ_ _=>fK
def Wh{tm:bS->aI->PR Nat}(d:∀E s,NE (tm E s))(E:bS)(s:aI):NE (ji tm E s):=by
 unfold ji;dsimp only;split
 .exact sF _
 split
 .exact iM (by decide)
 split
 .unfold mY;split
  .exact fK
  split
  .exact fK
  split
  .split
   .exact LO d _ _ _ _
   .exact iM (by decide)
  .exact iM (by decide)
 split
 .exact yk _ _ _
 split
 .exact yk _ _ _
 unfold mH;split
 .exact iM (by decide)
 refine ed (hM _ _ _) λe s=>?_;split
 .exact ed (ed (Wf _ _ _) λ_ _=>ed (CZ (λs=>d _ s) _ _) λ_ _=>fK) λ_ _=>ed (hM _ _ _) λ_ _=>yk _ _ _
 .unfold rH;split
  .exact iM (by decide)
  .refine ed (CZ (λs=>d _ s) _ _) λ_ _=>ed (hM _ _ _) λ_ _=>?_;split
   .exact LO d _ _ _ _
   .exact iM (by decide)
def Da:∀(f:Nat) (E:bS) (s:aI),NE (fQ f E s)
 |0,_,_=>iM (by decide)
 |f+1,E,s=>Wh (Da f) E s
def pD(x:SR):Prop:=∀d p,x=.er d p->d≠0
def yl{y:cJ}:pD (.ok y):=λ_ _ d=>(by cases d)
def qv{e:Int}{p:Nat}(d:e≠0):pD (.er e p):=λ_ _ h=>(by cases h;exact d)
def jH{α:Type}{x:PR α}{y:cJ}{f:α->cJ->SR}(h:NE x)(e:∀a y,pD (f a y)):pD (x.s y f):=by
 cases x with
 |ok a s=>exact e a _
 |er d p=>exact qv (h d p rfl)
def LQ(T:List aR)(x:cJ):NE (Db T x):=by
 refine ed (hM _ _ _) λt s=>?_;split
 .exact iM (by decide)
 .exact fK
def LR(T:List aR):∀(f:Nat) (ps:List (List UInt8×aU)) (s:aI),NE (m3 T f ps s)
 |0,_,_=>iM (by decide)
 |f+1,ps,s=>by
  unfold m3;dsimp only;split
  .exact fK
  split
  .exact sF _
  refine ed (hM _ _ _) λp s=>?_;split
  .exact iM (by decide)
  .exact ed (C' _ _) λ_ _=>ed (hM _ _ _) λ_ _=>LR T f _ _
def LU(T:List aR):∀(f d:Nat) (s:aI),NE (mi T f d s)
 |0,_,_=>iM (by decide)
 |f+1,d,s=>by
  unfold mi;dsimp only;split
  .exact sF _
  split
  .exact sF _
  generalize(if(aW T s.p).kind=0 then d+1 else if(aW T s.p).kind=1 then d - 1 else d)=d';split
  .exact fK
  .exact LU T f _ _
def We(T:List aR)(x:cJ):pD (oK T x):=by
 have fin:∀(c:hf) (x:cJ),pD ((bM T 1 x.s).s x λ_ x=>.ok {x with cs:=x.cs++[c]}):=λc x=>jH (hM _ _ _) λ_ _=>yl;refine jH (hM _ _ _) λd x=>?_;dsimp only;split
 .exact jH (LQ _ _) λ_ _=>jH (C' _ _) λ_ _=>jH (hM _ _ _) λ_ _=>jH (yk _ _ _) λ_ _=>yl
 split
 .refine jH (hM _ _ _) λ_ _=>jH (LQ _ _) λ_ _=>?_;split
  .exact qv (by decide)
  .exact jH (LR _ _ _ _) λ_ _=>jH (LU _ _ _ _) λ_ _=>jH (hM _ _ _) λ_ _=>yl
 split
 .refine jH (hM _ _ _) λ_ _=>jH (ed (Da _ _ _) λ_ _=>?_) λ_ _=>fin _ _;split
  .exact fK
  .exact iM (by decide)
 split
 .exact jH (hM _ _ _) λ_ _=>fin _ _
 split
 .exact fin _ _
 split
 .exact fin _ _
 split
 .refine jH (mZ _ _) λ_ _=>?_;split
  .exact qv (by decide)
  .exact fin _ _
 .exact qv (by decide)
def LS(T:List aR):∀(f:Nat) (x:cJ),pD (m9 T f x)
 |0,_=>qv (by decide)
 |f+1,x=>by
  unfold m9;dsimp only;split
  .exact yl
  split
  .cases e:oK T {x with s:=cK (aW T x.s.p) x.s}with
   |ok h=>exact LS T f h
   |er d p=>exact qv (We T _ d p e)
  .exact qv (by decide)
def On{M:Nat->Prop}{w0 w y z V:J}{L A D D':List En}(H:O M w0 w L D)(G:ah w y)(W:y.heap.size=w.heap.size+2)(x:O (·∈L.flatMap (·.fp)) y z A (D++D'))(I:∀e∈D',∀b∈e.fp,y.heap.size<=b\/∃g∈D,b∈g.fp)(f:Fr (λb=>b=w.heap.size\/b=w.heap.size+1) z V):O M w0 V A (D++D'):=by
 have T:=H.fr.size;have Q:∀h∈A,∀b∈h.fp,¬(b=w.heap.size\/b=w.heap.size+1):=λh q b d K=>by
  rcases x.new h q b d with j|j
  .omega
  .have:=H.n3 b j;omega
 have S:∀e∈D++D',∀b∈e.fp,¬(b=w.heap.size\/b=w.heap.size+1):=λe k b d K=>by
  rcases aL.1 k with k|k
  .have:=e.lt w (H.rd e k) b d;omega
  .rcases I e k b d with j|⟨g,P,j⟩
   .omega
   .have:=g.lt w (H.rd g P) b j;omega
 refine⟨((H.fr.gE G).trans x.fr λb d E=>?_).trans f λb d E=>by omega,λh q=>h.st z V (λb d C=>f.ck b C (Q h q b d)) (x.own h q),λe k=>e.st z V (λb d C=>f.ck b C (S e k b d)) (x.rd e k),λh q b d=>?_,x.nd,x.dj⟩
 .obtain ⟨h,q,B⟩:=bB.1 E;exact(H.new h q b B).resolve_left (by omega)
 .rcases x.new h q b d with j|j
  .exact .inl (by omega)
  .obtain ⟨F,N,B⟩:=bB.1 j;exact H.new F N b B
def Vz{w V:J}{D:List En}{e f k q d:En}(H:O (·∈[e,f].flatMap (·.fp)) w w [e,f] D)(G:Fr (·∈[e,f].flatMap (·.fp)) w V)(N:k.P V)(Q:q.P V)(I:k.fp=e.fp)(K:q.fp=f.fp)(hd:d.P V)(z:∀b∈d.fp,w.heap.size<=b\/∃g∈D,b∈g.fp):O (·∈[e,f].flatMap (·.fp)) w V [k,q] (D++[d]):=by
 have L:[k,q].flatMap (·.fp)=[e,f].flatMap (·.fp):=by simp[I,K]
 have S:∀g∈[k,q],∀b∈g.fp,∃x∈[e,f],b∈x.fp:=λg h b z=>by
  simp only[aE,aZ,a2]at h;rcases h with rfl|rfl
  .exact ⟨e,by simp,I▸z⟩
  .exact ⟨f,by simp,K▸z⟩
 refine⟨G,λg h=>?_,λg h=>?_,λg h b j=>.inr ?_,by rw[L];exact H.nd,λg h b j x B E=>?_⟩
 .simp only[aE,aZ,a2]at h;rcases h with rfl|rfl
  .exact N
  .exact Q
 .rcases aL.1 h with h|h
  .refine g.st w V (λb j W=>G.ck b W λE=>?_) (H.rd g h);obtain⟨x,B,y⟩:=bB.1 E;exact H.dj g h b j x B y
  .rw [bX.1 h];exact hd
 .rw [<-L];exact bB.2 ⟨g,h,j⟩
 .obtain ⟨A,C,F⟩:=S x B b E;rcases aL.1 h with h|h
  .exact H.dj g h b j A C F
  .rw [bX.1 h]at j;rcases z b j with y|⟨M,T,y⟩
   .have:=H.n3 b (bB.2 ⟨A,C,F⟩);omega
   .exact H.dj M T b y A C F
def _root_.Go.W.O.join{M:Nat->Prop}{w0 w V:J}{L D A B:List En}(H:O M w0 w L D)(q:O F0 w V (A++B) []):O M w0 V (L++A) (D++B):=by
 have I:∀e:En,e.P w->e.P V:=λe Q=>e.st w V (λh _ N=>q.fr.ck h N id) Q;have z:∀e∈A++B,∀h∈e.fp,w.heap.size<=h:=λe d h j=>(q.new e d h j).resolve_right id;have E:=q.nd;rw[cC,dL]at E;refine⟨H.fr.gE q.fr,λe d=>?_,λe d=>?_,λe d h j=>?_,?_,λx k h j e d y=>?_⟩
 .rcases aL.1 d with d|d
  .exact I e (H.own e d)
  .exact q.own e (bz _ d)
 .rcases aL.1 d with d|d
  .exact I e (H.rd e d)
  .exact q.own e (b0 _ d)
 .rcases aL.1 d with d|d
  .exact H.new e d h j
  .exact .inl (bp H.fr.size (z e (bz _ d) h j))
 .rw [cC,dL];refine⟨H.nd,E.1,λa K b C=>?_⟩;obtain⟨e,d,C⟩:=bB.1 C;have F:=z e (bz _ d) b C;have G:=H.n3 a K;omega
 .rcases aL.1 k with k|k
  .rcases aL.1 d with d|d
   .exact H.dj x k h j e d y
   .have F:=z e (bz _ d) h y;have G:=x.lt w (H.rd x k) h j;omega
  .rcases aL.1 d with d|d
   .have F:=z x (b0 _ k) h j;have G:=H.n3 h (bB.2 ⟨e,d,y⟩);omega
   .exact E.2.2 h (bB.2 ⟨e,d,y⟩) h (bB.2 ⟨x,k,j⟩) rfl
def z9(g:Sl)(l:List Nd)(w:J)(x:PR Nat):aC:=λr h=>match x with
 |.ok n k=>(∃d e,r=ae (.tuple #[.agg #[d.v],.i ((n:Nat):Int),.i 0,.i 0])/\GP h d e/\xs e=k.g/\∀b∈(En.gr d e).fp,b∈(En.gr g l).fp\/w.heap.size<=b)/\ah w h
 |.er j p=>r=ae (.tuple #[.agg #[.slice none 0 0],.i 0,.i ((p:Nat):Int),.i j])/\ah w h
def Xf{g:Sl}{l:List Nd}{w V:J}{x:PR Nat}{n:Nat}{s':aI}{d:Sl}{h:List Nd}(e:x=.ok n s')(j:GP V d h)(k:xs h=s'.g)(q:∀b∈(En.gr d h).fp,b∈(En.gr g l).fp\/w.heap.size<=b)(f:ah w V):z9 g l w x (ae (.tuple #[.agg #[d.v],.i ((n:Nat):Int),.i 0,.i 0])) V:=by subst e;exact⟨⟨d,h,rfl,j,k,q⟩,f⟩
def M4{g:Sl}{l:List Nd}{w V:J}{x:PR Nat}{e:Int}{p:Nat}(d:x=.er e p)(f:ah w V):z9 g l w x (ae (.tuple #[.agg #[.slice none 0 0],.i 0,.i ((p:Nat):Int),.i e])) V:=by subst d;exact⟨rfl,f⟩
def jd(T:List aR)(g:List Nx):bS:=⟨T,eO g 0,[],[],9223372036854775807,0⟩
def ZU{g:List Nx}:∀h∈eO g 0,h.2<g.length:=λh e=>by rw[tH]at e;obtain⟨i,d,rfl⟩:=cz.1 e;rw[List.mem_filter,List.mem_range]at d;exact d.1
def R5{N:Nat}{w:J}{g:Sl}{l:List Nd}{s:ByteArray}(h:GP w g l)(hk:cO.P w)(hv:Vg (xs l))(hn:l.length<=4096)(hs:s.size<=1000000)(hX:∀j,tokens (bl s)=.ok j->nz N j):
  aj U KJ #[.agg #[g.v],.string s] w (z9 g l w (vo (xs l) (bl s))):=by
 have ao:O F0 w w [] [.gr g l,cO]:=bO _ (by
  intro G S;simp only[aE,aZ,a2]at S;rcases S with rfl|rfl
  .exact bc.2 h
  .exact hk)
 have L:vo (xs l) (bl s)=match tokens (bl s)with
  |.bad a G=>.er G a
  |.ok j=>v3 (jd j (xs l)) (fQ (mS (jd j (xs l)) ⟨0,0,xs l⟩) (jd j (xs l))) ⟨0,0,xs l⟩:=rfl
 refine MM.au g s w _ (ao.ay λb2 w1 H1=>H1.ay λb4 w2 H2=>?_);cases ht:tokens (bl s)with
 |bad a G=>
  rw[ht]at L;refine H2.av (A:=λr w'=>r=ae (.tuple #[.slice none 0 0,.int .i64 (a:Int),.int .i64 G])/\G≠0) ((xH s hs w2).mono λr w' hp=>by rw[ht]at hp;obtain⟨h1,h2,h3⟩:=hp;exact⟨⟨h1,h2⟩,h3⟩) ?_
  rintro _ w3 ⟨rfl,h0⟩ H3;exact⟨⟨none,0,0⟩,_,_,rfl,bY (λ_=>H3.af λM H4=>M4 L H4.fr) (λh=>absurd h h0)⟩
 |ok j=>
  rw[ht]at L;have hX:=hX j ht;have hT:=zr ht;refine H2.gY (A:=λr w'=>∃sl:Sl,r=ae (.tuple #[sl.v,.int .i64 0,.int .i64 0])/\aK w' cX 3 sl (hB j)/\∀b∈aN sl,w2.heap.size<=b) ((xH s hs w2).mono λr w' hp=>by rw[ht]at hp;obtain⟨sl,h1,h2,h3,h4⟩:=hp;exact⟨⟨sl,h1,h2,h4⟩,h3⟩) ?_
  rintro _ w3 ⟨z,rfl,ho,az⟩ _ F3;have H3:=F3.rd (.a7 3 z (hB j)) ho.a7 (o9 az);refine⟨_,_,_,rfl,aV rfl (H3.av (A:=tQ w3 z g (eO (xs l) 0) (xs l)) ((Gp (bc.1 (H3.getD 0)) hv hn).mono λr w' h=>⟨h,by obtain⟨_,_,_,_,_,_,_,_,_,_,_,h⟩:=h;exact h.fr⟩) ?_)⟩;rintro _ M ⟨q,D,F,C,eo,ev,W,Y,rfl,aA,aG,HX⟩ _;have H4:O F0 w M [.g b2,.g b4,bf (j7 q D F C z g) ⟨0,0,xs l⟩] [.gr g l,cO,.a7 3 z (hB j),.ob D (.map eo W),.ob F (.map ev Y),.ob C (.map #[] 0)]:=H3.join (A:=[bf (j7 q D F C z g) ⟨0,0,xs l⟩]) (B:=[.ob D (.map eo W),.ob F (.map ev Y),.ob C (.map #[] 0)]) HX;refine⟨_,rfl,H4.nw λw5 aL H5=>Ev H5 3 rfl (λI H6=>H6.nw λw7 aM H7=>Ev H7 4 rfl (λw8 H8=>?_))⟩;have H8:O F0 w w8 [.g b2,.g b4,bf (j7 q D F C z g) ⟨0,0,xs l⟩,.c M.heap.size [.pointer (some (ad q))] mx,.c I.heap.size [.i 0] bn] [.gr g l,cO,.a7 3 z (hB j),.ob D (.map eo W),.ob F (.map ev Y),.ob C (.map #[] 0)]:=H8;have G8:=H8.freeze 3 (.c M.heap.size [.pointer (some (ad q))] mx) rfl (H8.get 3) (λb k=>k);have aD:∀a b c Z:En,List.Perm [a,b,c,Z] ([c,Z]++[a,b]):=λa b c Z=>List.perm_append_comm (l₁:=[a,b]) (l₂:=[c,Z]);have H:O F0 w w8 ([bf (j7 q D F C z g) ⟨0,0,xs l⟩,.c I.heap.size [.i 0] bn]++[.g b2,.g b4]) [.gr g l,cO,.a7 3 z (hB j),.ob D (.map eo W),.ob F (.map ev Y),.ob C (.map #[] 0),.c M.heap.size [.pointer (some (ad q))] mx]:=lA G8 (aD _ _ _ _);obtain⟨T,hD⟩:∃T,T=[.gr g l,cO,.a7 3 z (hB j),.ob D (.map eo W),.ob F (.map ev Y),.ob C (.map #[] 0),.c M.heap.size [.pointer (some (ad q))] mx]:=⟨_,rfl⟩;rw[<-hD]at H;have ag:En.c M.heap.size [.pointer (some (ad q))] mx∈T:=by rw[hD];simp
  have aa:En.gr g l∈T:=by rw[hD];simp
  have hE:gq (j7 q D F C z g) (jd j (xs l)) [] T:=by rw[hD];exact⟨⟨aB (i:=2) rfl,hT⟩,⟨eo,W,aB (i:=3) rfl,aA⟩,⟨ev,Y,aB (i:=4) rfl,aG⟩,⟨#[],0,aB (i:=5) rfl,rfl⟩,rfl,λal y=>(by cases y),rfl,rfl,rfl,aB (i:=1) rfl⟩
  have hG:fo (j7 q D F C z g) l ⟨0,0,xs l⟩ T:=⟨aa,rfl,hv,by show(xs l).length<=4096;simp[xs];omega⟩;have hO:ei (jd j (xs l)) (xs l):=⟨hT,ZU,λal y=>(by cases y),λal y=>(by cases y)⟩;have aC:0<j.length:=by obtain⟨aI,t,G,_⟩:=hT.e;rw[G];simp
  obtain⟨hC,hI⟩:=PT hX (E:=jd j (xs l)) rfl ⟨0,0,xs l⟩ [];have aq:∀b,b∈[q,I.heap.size]->b<w8.heap.size:=λb k=>H.n3 b (bB.2 (by
   simp only[aE,aZ,a2]at k;rcases k with rfl|rfl
   .exact ⟨_,aB (i:=0) rfl,by simp[En.ob]⟩
   .exact ⟨_,aB (i:=1) rfl,by simp[En.ob]⟩))
  have L:vo (xs l) (bl s)=v3 (jd j (xs l)) (fQ (mS (jd j (xs l)) ⟨0,0,xs l⟩) (jd j (xs l))) ⟨0,0,xs l⟩:=L;generalize ak:v3 (jd j (xs l)) (fQ (mS (jd j (xs l)) ⟨0,0,xs l⟩) (jd j (xs l))) ⟨0,0,xs l⟩=x at L;have aF:=MI (f:=Cv) (first:=#[]) (nD:=#[.pointer (some (ad M.heap.size)),.pointer (some (ad I.heap.size))]) (by kernel_rfl) (p:=ad q) aq (Q:=λw1=>oD (j7 q D F C z g) I.heap.size l w1 x) λw9 K am=>by
   have:=Xm (X:=j7 q D F C z g) hC hI (qk (H.cd K)) ag hE hG hO (be _) aC (dc _);rw[ak]at this;refine this.mono λr w' h=>?_;refine⟨?_,?_,h⟩
   .unfold oD at h;split at h
    .exact .inl h.1
    .exact .inr ⟨_,_,h.1⟩
   .unfold oD at h;split at h
    .obtain ⟨_,_,_,_,_,_,_,_,f⟩:=h;exact f
    .exact h.2
  refine⟨_,gX (H.rd _ ag),(·∈[q,I.heap.size]),λb k hm=>?_,aF.mono ?_⟩
  .have ai:=H.nd;rw[cC,dL]at ai;exact ai.2.2 b hm b (bB.2 ⟨.g b,(by simp only[aE,aZ,a2]at k;rcases k with rfl|rfl<;>simp),by simp[En.g]⟩) rfl
  rintro r ab ⟨w9,aQ,K,am,f10,aw⟩;have aJ:Fr (·∈[q,I.heap.size]) w8 ab->ah w ab:=λf=>H.fr.trans f λb k hm=>by
   obtain⟨G,S,ar⟩:∃G∈[bf (j7 q D F C z g) ⟨0,0,xs l⟩,.c I.heap.size [.i 0] bn]++[.g b2,.g b4],b∈G.fp:=by
    simp only[aE,aZ,a2]at hm;rcases hm with rfl|rfl
    .exact ⟨_,aB (i:=0) rfl,by simp[En.ob]⟩
    .exact ⟨_,aB (i:=1) rfl,by simp[En.ob]⟩
   exact(H.new G S b ar).resolve_left (by omega)
  rcases aw with⟨rfl,y⟩|⟨G,ap,rfl,y⟩
  .unfold oD at y;split at y
   .rename_i n s';obtain⟨_,q1,g',l',q2,q3,q4,q5,q6⟩:=y;have T1:=Vz (qk (H.cd K)) q6 q2 q1 rfl rfl (d:=.gr g' l') (bc.2 q3) (λb k=>(q5 b k).elim (λh=>.inr ⟨_,aa,h⟩) .inl);have T2:=On (qk H) K am T1 (λZ hd b k=>by rw[bX.1 hd]at k;exact(q5 b k).elim (λh=>.inr ⟨_,aa,h⟩) .inl) f10
    have T3:=sj H T2 (λZ hd b k=>by rw[bX.1 hd]at k;have hz:=K.size;exact(q5 b k).elim (λh=>.inr ⟨_,aa,h⟩) (λh=>.inl (by omega)))
    refine⟨T2.fr,_,_,rfl,aV rfl (T3.af λaH V=>⟨_,gX (V.rd _ (bz _ ag)),g',by rw[add_add];exact V.ld 0 2,_,gX (V.get 1),V.af λaP ac=>⟨gX (ac.get 1),?_⟩⟩)⟩;refine Xf L (bc.1 (ac.rd _ (b0 _ (bX.2 rfl)))) q4 (λb k=>?_) ac.fr;have hz:=K.size;have aO:=H.fr.size;exact(q5 b k).imp id λh=>by omega
   .obtain ⟨h,_⟩:=y;cases h
  .unfold oD at y;split at y
   .obtain ⟨h,_⟩:=y;cases h
   .rename_i e' p';obtain⟨h,q6⟩:=y;have ax:e'≠0:=by have:NE (PR.er e' p':PR Nat):=ak▸ed (Da _ _ _) λ_ _=>ed (hM _ _ _) λ_ _=>fK;exact this _ _ rfl
    have S:G=e'/\ap=p':=by simp only[Ending.panicked.injEq,List.cons.injEq,PanicEntry.mk.injEq,Value.iface.injEq,and_true,true_and]at h;simp at h;omega
    rw[S.1,S.2];have f8:Fr (·∈[q,I.heap.size]) w8 ab:=((K.Dn.trans q6 λ_ _ h=>h).trans f10 λb k hm=>by have:=K.size;omega);have an:O F0 w ab [.g b2,.g b4] []:=sj (H.forget [] (by simp)) (wB:=[]) (D':=[]) ⟨f8,by simp,by simp,by simp,by simp,by simp⟩ (by simp);exact⟨f8,_,_,rfl,bY (λ_=>an.af λaH V=>M4 L V.fr) (λh=>absurd h ax)⟩
def Fo(w:J)(x:SR):aC:=λr d=>match x with
 |.ok k=>(∃(h:Sl) (j:List Nd) (e:Sl),r=ae (.tuple #[.agg #[h.v,e.v],.i 0,.i 0])/\GP d h j/\xs j=k.s.g/\aK d iW 7 e (gJ k.cs)/\(∀b∈(En.gr h j).fp,w.heap.size<=b\/b∈cO.fp)/\(∀b∈aN e,w.heap.size<=b))/\ah w d
 |.er q p=>r=ae (.tuple #[.agg #[.slice none 0 0,.slice none 0 0],.i ((p:Nat):Int),.i q])/\ah w d
def M3{w V:J}{x:SR}{e:Int}{p:Nat}(d:x=.er e p)(f:ah w V):Fo w x (ae (.tuple #[.agg #[.slice none 0 0,.slice none 0 0],.i ((p:Nat):Int),.i e])) V:=by subst d;exact⟨rfl,f⟩
def Il(w:J):GP w ⟨none,0,0⟩ []:=⟨br.nil 9 w,λe d=>by cases d⟩
def Gs{N:Nat}{w:J}{s:ByteArray}(hk:cO.P w)(hs:s.size<=1000000)(hX:∀j,tokens (bl s)=.ok j->nz N j):
  aj U Cu #[.string s] w (Fo w (o4 (bl s))):=by
 have ap:O F0 w w [] [.gr ⟨none,0,0⟩ [],cO]:=bO _ (by
  intro B Z;simp only[aE,aZ,a2]at Z;rcases Z with rfl|rfl
  .exact bc.2 (Il w)
  .exact hk)
 have E:o4 (bl s)=match tokens (bl s)with
  |.bad a B=>.er B a
  |.ok j=>m9 j (j.length+1) ⟨⟨0,0,[]⟩,[],[],[]⟩:=rfl
 refine ML.au s w _ (ap.ay λb2 w1 H1=>?_);cases K:tokens (bl s)with
 |bad a B=>
  rw[K]at E;refine H1.av (A:=λr S=>r=ae (.tuple #[.slice none 0 0,.int .i64 (a:Int),.int .i64 B])/\B≠0) ((xH s hs w1).mono λr S hp=>by rw[K]at hp;obtain⟨h1,h2,h3⟩:=hp;exact⟨⟨h1,h2⟩,h3⟩) ?_
  rintro _ w3 ⟨rfl,h0⟩ V;exact⟨⟨none,0,0⟩,_,_,rfl,bY (λ_=>V.af λw4 W=>M3 E W.fr) (λh=>absurd h h0)⟩
 |ok j=>
  rw[K]at E;have hX:=hX j K;have hT:=zr K;refine H1.gY (A:=λr S=>∃sl:Sl,r=ae (.tuple #[sl.v,.int .i64 0,.int .i64 0])/\aK S cX 3 sl (hB j)/\∀b∈aN sl,w1.heap.size<=b) ((xH s hs w1).mono λr S hp=>by rw[K]at hp;obtain⟨sl,h1,h2,h3,h4⟩:=hp;exact⟨⟨sl,h1,h2,h4⟩,h3⟩) ?_
  rintro _ w3 ⟨tk,rfl,ho,ak⟩ _ F3;have V:=F3.rd (.a7 3 tk (hB j)) ho.a7 (o9 ak);refine⟨_,_,_,rfl,aV rfl (V.av (A:=tQ w3 tk ⟨none,0,0⟩ [] []) ((Gp (l:=[]) (Il w3) .nil (by simp)).mono λr S h=>⟨h,by obtain⟨_,_,_,_,_,_,_,_,_,_,_,h⟩:=h;exact h.fr⟩) ?_)⟩;rintro _ w4 ⟨ab,mo,mv,mm,eo,ev,co,cv,rfl,az,aD,HX⟩ _;have aq:O F0 w3 w4 ([bf (j7 ab mo mv mm tk ⟨none,0,0⟩) ⟨0,0,[]⟩,.ob mv (.map ev cv),.ob mm (.map #[] 0)]++[.ob mo (.map eo co)]) []:=lA HX (.cons _ (List.perm_append_singleton _ [_,_]).symm);have W:=V.join aq;have W:=W.h' iW 7;obtain⟨z,hY⟩:∃z:k9,z=⟨j7 ab mo mv mm tk ⟨none,0,0⟩,[],[],ev,cv,#[],0⟩:=⟨_,rfl⟩;obtain⟨q,L⟩:∃q:cJ,q=⟨⟨0,0,[]⟩,[],[],[]⟩:=⟨_,rfl⟩;obtain⟨G,hD⟩:∃G,G=[En.gr ⟨none,0,0⟩ [],cO,.a7 3 tk (hB j),.ob mo (.map eo co)]:=⟨_,rfl⟩;have ah:∀ag∈G,∀b∈ag.fp,w.heap.size<=b\/b∈cO.fp:=λag C b k=>by
   rw[hD]at C;simp only[aE,aZ,a2]at C;rcases C with rfl|rfl|rfl|rfl
   .cases k
   .exact .inr k
   .exact .inl (bp H1.fr.size (o9 ak b k))
   .exact .inl (bp V.fr.size ((HX.new _ (aB (i:=1) rfl) b k).resolve_right id))
  have F:O F0 w w4 (ch z q++[.g b2]) G:=by rw[hY,L,hD];exact lA W (List.perm_append_comm (l₁:=[_]) (l₂:=[_,_,_,_]))
  have aA:0<j.length:=by obtain⟨aG,t,B,_⟩:=hT.e;rw[B];simp
  have hO:ei (l4 j q) q.s.g:=by rw[L];exact⟨hT,λaa y=>(by cases y),λaa y=>(by cases y),λaa y=>(by cases y)⟩
  have Y:gG j z q G:=by rw[L]at hO;rw[hY,L,hD];exact⟨⟨aB (i:=2) rfl,hT⟩,⟨eo,co,aB (i:=3) rfl,az⟩,aB (i:=1) rfl,⟨aB (i:=0) rfl,rfl,.nil,by simp⟩,λaa y=>(by cases y),rfl,aD,rfl,rfl,rfl,rfl,hO,aA,by simp,by simp,by simp⟩
  have hZ:iw j q:=⟨Y.p,Y.tm,Y.gr.v,Y.ok,λc hc=>by rw[L]at hc;cases hc⟩;have E:o4 (bl s)=m9 j (j.length+1) q:=by rw[L];exact E
  have al:z.X.rb=ab:=by rw[hY]
  generalize y:m9 j (j.length+1) q=aa at E;have aC:=MI (f:=CH) (first:=#[.pointer (some (ad ab))]) (nD:=#[]) (by kernel_rfl) (p:=ad ab) (λb k=>F.n3 b (by rw[cC];exact bz _ k)) (M:=(·∈(ch z q).flatMap (·.fp))) (Q:=λw1=>hV j z q G w1 aa) λw9 I z9=>by
   have:=Xz hX Y hZ (qk (F.cd I));rw[y,al]at this;refine this.mono λr S h=>?_;refine⟨?_,?_,h⟩
   .unfold hV at h;split at h
    .exact .inl h.1
    .exact .inr ⟨_,_,h.1⟩
   .unfold hV at h;split at h
    .obtain ⟨_,H,an,_,h,_⟩:=h;exact h.fr
    .exact h.2
  have ai:=F.nd;rw[cC,dL]at ai;refine⟨_,rfl,(·∈(ch z q).flatMap (·.fp)),λb k hm=>ai.2.2 b hm b (bB.2 ⟨.g b,by rw[bX.1 k];simp,by simp[En.g]⟩) rfl,aC.mono ?_⟩;rintro r am ⟨w9,aI,I,z9,f10,aw⟩;rcases aw with⟨rfl,D⟩|⟨B,ar,rfl,D⟩
  .unfold hV at D;split at D
   .rename_i aJ;obtain⟨_,H,an,q1,q2,q3,q4⟩:=D;have T2:=On (qk F) I z9 q2 q4 f10;have hz:=I.size;have T3:=sj F T2 (λag C b k=>(q4 ag C b k).imp (λh=>by omega) id);rw[<-al,<-q1];refine⟨T2.fr,_,_,rfl,aV rfl (T3.af λaF T=>⟨H.X.g,by rw[add_add];exact T.ld 0 2,H.X.cs,T.ld 0 3,T.af λaH ac=>?_⟩)⟩;rw[E];refine⟨⟨H.X.g,H.l,H.X.cs,rfl,bc.1 (ac.rd _ q3.gr.d),q3.gr.x,ac.get 3,λb k=>?_,λb k=>?_⟩,ac.fr⟩
    .rcases aL.1 q3.gr.d with C|C
     .exact ah _ C b k
     .rcases q4 _ C b k with h|⟨g,hg,h⟩
      .exact .inl (by have:=F.fr.size;omega)
      .exact ah g hg b h
    .exact (ac.new _ (aB (i:=3) rfl) b k).resolve_right id
   .obtain ⟨h,_⟩:=D;cases h
  .unfold hV at D;split at D
   .obtain ⟨h,_⟩:=D;cases h
   .rename_i e' p';obtain⟨h,q6⟩:=D;have ax:e'≠0:=LS j (j.length+1) q e' p' y;have Z:B=e'/\ar=p':=by simp only[Ending.panicked.injEq,List.cons.injEq,PanicEntry.mk.injEq,Value.iface.injEq,and_true,true_and]at h;simp at h;omega
    rw[Z.1,Z.2];have f8:Fr (·∈(ch z q).flatMap (·.fp)) w4 am:=((I.Dn.trans q6 λ_ _ h=>h).trans f10 λb k hm=>by have:=I.size;omega);have ao:O F0 w am [.g b2] []:=sj (F.forget [] (by simp)) (wB:=[]) (D':=[]) ⟨f8,by simp,by simp,by simp,by simp,by simp⟩ (by simp);exact⟨f8,_,_,rfl,bY (λ_=>ao.af λaF T=>M3 E T.fr) (λh=>absurd h ax)⟩
set_option maxHeartbeats 2000000
namespace Pt
noncomputable abbrev t0:=aA U Tryz.f8 [] [2,6]
def au:=aF t0 Lp [.a 1,.s,.a 9,.I,.s,.I,.I,.U,.st,.I,.I,.I]
end Pt
namespace nH
noncomputable abbrev t0:=aA U Tryz.f21 [] []
abbrev P0:Ps:=[(0,.v [.I]),(3,.v [.st]),(4,.v [.st]),(5,.v [.I])]
noncomputable def L1:=bu t0 [0,1,1,1,4] P0
noncomputable abbrev t1:=bt L1
noncomputable abbrev S3:=ai t1 [2,2,1,1,4] P0
noncomputable abbrev t2:=ak S3
noncomputable abbrev S2:=ai t2 [2,2,1,2,1,1,4] [(0,.v [.I]),(3,.v [.st]),(4,.v [.st]),(5,.v [.I]),(6,.v [.I])]
noncomputable abbrev t3:=ak S2
def i1:=bH t3 L1
noncomputable abbrev S0:=ai t3 [3] [(0,.v [.I]),(3,.v [.st])]
noncomputable abbrev t4:=ak S0
def ok:=aF t4 Cl [.I]
end nH
namespace kG
noncomputable abbrev t0:=aA U Tryz.f22 [(11,ls [0,1,2,3,4,5,6,7,8,9,10,11])] []
abbrev P0:Ps:=[(0,.v [.st]),(3,.v [.st]),(4,.v [.s]),(5,.v [.I])]
noncomputable def L1:=bu t0 [0,1,1,1,3] P0
noncomputable abbrev t1:=bt L1
noncomputable abbrev S5:=ai t1 [2,2,1,1,3] P0
noncomputable abbrev t2:=ak S5
abbrev P1:Ps:=[(0,.v [.st]),(3,.v [.st]),(4,.v [.s]),(5,.v [.I]),(6,.v [.Y])]
noncomputable abbrev S6:=ai t2 [4,2,1,2,1,1,3] P1
noncomputable abbrev t3:=ak S6
noncomputable abbrev S4:=ai t3 [2,2,1,2,1,1,3] P1
noncomputable abbrev t4:=ak S4
noncomputable abbrev S3:=ai t4 [0,1,1,1,1,2,1,2,1,1,3] P1
noncomputable abbrev t5:=ak S3
noncomputable abbrev S2:=ai t5 [1,2,1,2,1,1,3] P1
noncomputable abbrev t6:=ak S2
def i1:=bH t6 L1
noncomputable abbrev S0:=ai t6 [2] [(0,.v [.st]),(3,.v [.st])]
noncomputable abbrev t7:=ak S0
def ok:=aF t7 Kr [.st]
end kG
namespace HM
noncomputable abbrev t0:=aA U Tryz.f24 [] []
def ok:=aF t0 Ku []
end HM
namespace HN
noncomputable abbrev t0:=aA U Tryz.f25 [] []
def ok:=aF t0 Kw []
end HN
namespace xh
noncomputable abbrev t0:=aA U Tryz.f23 [] [1]
abbrev P0:Ps:=[(1,.l [.I,.I,.I] bR),(4,.v [.st])]
noncomputable abbrev bb:=ai t0 [4] P0
noncomputable abbrev t1:=ak bb
noncomputable abbrev aX:=ai t1 [3] P0
noncomputable abbrev t2:=ak aX
def au:=aF t2 Ks [.a 3,.I,.I,.I]
end xh
namespace h4
noncomputable abbrev t0:=aA U Tryz.f7 [(16,ls [1,2,0,3,4,5,6]),(21,ls [0,1,2,3,4,5,6]),(25,ls [0,1,2,3,7,8,4,5,6,9,10,11])] [5]
noncomputable def a0:=bu t0 [0,1,1,1,1,1,3,1,1,1,2] [(5,.l [.I,.s,.I,.I,.U,.st,.I,.I,.I] bI),(6,.v [.st]),(7,.v [.I])]
noncomputable abbrev t1:=bt a0
def bJ:=bH t1 a0
abbrev P0:Ps:=[(0,.v [.s]),(5,.l [.I,.s,.I,.I,.U,.st,.I,.I,.I] bI),(8,.v [.st]),(9,.v [.s]),(10,.v [.s]),(11,.v [.I])]
noncomputable def ku:=bu t1 [0,1,1,1,5] P0
noncomputable abbrev t2:=bt ku
noncomputable abbrev cv:=ai t2 [2,2,1,1,5] P0
noncomputable abbrev t3:=ak cv
abbrev P1:Ps:=[(0,.v [.s]),(5,.l [.I,.s,.I,.I,.U,.st,.I,.I,.I] bI),(8,.v [.st]),(12,.v [.I])]
noncomputable def hU:=bu t3 [0,1,1,1,7] P1
noncomputable abbrev t4:=bt hU
noncomputable abbrev jV:=ai t4 [2,2,1,1,7] P1
noncomputable abbrev t5:=ak jV
def k8:=bH t5 hU
abbrev P2:Ps:=[(0,.v [.s]),(5,.l [.I,.s,.I,.I,.U,.st,.I,.I,.I] bI),(8,.v [.st])]
noncomputable abbrev fG:=ai t5 [7] P2
noncomputable abbrev t6:=ak fG
noncomputable abbrev lX:=ai t6 [0,1,3,1,1,1,6] P2
noncomputable abbrev t7:=ak lX
noncomputable abbrev pI:=ai t7 [4,1,1,1,6] [(0,.v [.s]),(5,.l [.I,.s,.I,.I,.U,.st,.I,.I,.I] bI),(8,.v [.st]),(85,.v [.I])]
noncomputable abbrev t8:=ak pI
def oB:=bH t8 ku
noncomputable abbrev bb:=ai t8 [4] P2
noncomputable abbrev t9:=ak bb
def au:=aF t9 Kt [.s,.I]
end h4
abbrev Ti:List UInt8:=[48,49,50,51,52,53,54,55,56,57]
abbrev gL:List UInt8:=Ti++[97,98,99,100,101,102]
def gw(c:UInt8):List UInt8:=if c.toNat=34\/c.toNat=92 then[92,c]else if 32<=c.toNat/\c.toNat<=126 then[c]else[92,120,gL.getD (c.toNat / 16) 0,gL.getD (c.toNat%16) 0]
def kO(l:List UInt8):List UInt8:=[34]++l.flatMap gw++[34]
def HQ(c:UInt8):1<=(gw c).length/\(gw c).length<=4:=by unfold gw;split<;>(try split)<;>simp
def HR:∀l:List UInt8,l.length<=(l.flatMap gw).length/\(l.flatMap gw).length<=4 *l.length
 |[]=>by simp
 |c::l=>by have d:=HQ c;have e:=HR l;rw[df,b',cT];omega
def Us(c:UInt8):(bj #[48,49,50,51,52,53,54,55,56,57,97,98,99,100,101,102])[c.toNat / 16]? =some (gL.getD (c.toNat / 16) 0):=lY (p:=λc=>(bj #[48,49,50,51,52,53,54,55,56,57,97,98,99,100,101,102])[c.toNat / 16]? =some (gL.getD (c.toNat / 16) 0)) (by decide+kernel) c
def Ut(c:UInt8):(bj #[48,49,50,51,52,53,54,55,56,57,97,98,99,100,101,102])[c.toNat%16]? =some (gL.getD (c.toNat%16) 0):=lY (p:=λc=>(bj #[48,49,50,51,52,53,54,55,56,57,97,98,99,100,101,102])[c.toNat%16]? =some (gL.getD (c.toNat%16) 0)) (by decide+kernel) c
def yv(l:List UInt8):∀u∈l.map i4,u.oneCell'=true:=λu d=>by obtain⟨c,_,rfl⟩:=cz.1 d;rfl
def Ws{s:ByteArray}{k:Nat}(d:(bl s).drop k=[]):s.size<=k:=by have:=congrArg List.length d;rw[e8,c9]at this;simp at this;omega
def Nq(s:ByteArray)(ad:s.size<=1000000)(w:J):aj U Kr #[.string s] w λr d=>r=ae (.string (ba (kO (bl s))))/\ah w d:=by
 refine kG.ok _ w _ ?_;dsimp only[kG.S0,ai];refine O.eK (O.start (M:=F0) [] (by simp)) (e:=g7) (sz:=1) (n:=1) (cs:=([34]:List UInt8).map i4) rfl (by decide) λq Q=>?_;have loop:∀(l:List UInt8) (k:Nat) (acc:List UInt8) (out:Sl) (q:J),(bl s).drop k=l->k<=s.size->acc.length<=4 *k+1->O F0 w q [.row g7 1 out (acc.map i4)] []->
   kG.L1 s (bj #[48,49,50,51,52,53,54,55,56,57,97,98,99,100,101,102]) out (k:Int) q λr d=>r=ae (.string (ba (acc++l.flatMap gw++[34])))/\ah w d:=by
  intro l;induction l with
  |nil=>
   intro k acc out q F Z W y;have:=Ws F;have tn:out.n=acc.length:=by have:=aK.len (y.get 0);simp at this;omega
   refine kG.i1 _ _ _ _ _ _ (aV (aP (by omega)) ?_);refine y.wO 0 oL (news:=([34]:List UInt8).map i4) rfl rfl (yv _) (by omega) (by omega) λt h x=>?_;have Y:Bytes h t (acc++[34]):=by
    have:=aK.yP (x.get 0)
    rwa[<-dX]at this
   refine⟨_,rE Y,?_,x.fr⟩;simp
  |cons c l ih=>
   intro k acc out q F Z W y;obtain⟨T,aa,af⟩:=uR F;have tn:out.n=acc.length:=by have:=aK.len (y.get 0);simp at this;omega
   have next:∀(C:List UInt8) (j:Sl) (h:J),C=acc++gw c->O F0 w h [.row g7 1 j (C.map i4)] []->kG.S5 s (bj #[48,49,50,51,52,53,54,55,56,57,97,98,99,100,101,102]) j (k:Int) h λr d=>r=ae (.string (ba (acc++(c::l).flatMap gw++[34])))/\ah w d:=by intro C j h N x;show kG.L1 _ _ _ (aG .i64 ((k:Int)+1)) _ _;rw[bw k (by omega)];have V:=HQ c;have:=ih (k+1) C j h aa (by omega) (by rw[N,b'];omega) x;rw[N]at this;simpa[df]using this
   refine kG.i1 _ _ _ _ _ _ (aT (aM (by omega)) ⟨by omega,c,by rw[bZ];exact T,?_⟩);have tail:∀(pre:List UInt8) (j:Sl) (h:J),j.n<=acc.length+1->(pre=[]/\c.toNat≠34/\c.toNat≠92\/pre=[92]/\(c.toNat=34\/c.toNat=92))->O F0 w h [.row g7 1 j ((acc++pre).map i4)] []->kG.S4 s (bj #[48,49,50,51,52,53,54,55,56,57,97,98,99,100,101,102]) j (k:Int) (c.toNat:Int) h λr d=>r=ae (.string (ba (acc++(c::l).flatMap gw++[34])))/\ah w d:=by
    intro pre j h hn P x;have K:¬(32<=c.toNat/\c.toNat<=126)->kG.S6 s (bj #[48,49,50,51,52,53,54,55,56,57,97,98,99,100,101,102]) j (k:Int) (c.toNat:Int) h λr d=>r=ae (.string (ba (acc++(c::l).flatMap gw++[34])))/\ah w d:=λA=>by
     have ac:=c.toNat_lt;have G:aG .u8 (eP (c.toNat:Int) 16)=((c.toNat / 16:Nat):Int):=by rw[show eP (c.toNat:Int) 16=((c.toNat / 16:Nat):Int)from rfl,IntKind.wrap_u8];omega
     have H:eY (c.toNat:Int) 16=((c.toNat%16:Nat):Int):=rfl;dsimp only[kG.S6,ai];refine x.dr λw3 S=>⟨by rw[G];omega,gL.getD (c.toNat / 16) 0,by rw[G,bZ];exact Us c,by rw[H];omega,gL.getD (c.toNat%16) 0,by rw[H,bZ];exact Ut c,?_⟩;refine S.wO 0 oL (news:=([92,120,gL.getD (c.toNat / 16) 0,gL.getD (c.toNat%16) 0]:List UInt8).map i4) rfl rfl (yv _) (by omega) (by omega) λt B z=>next (acc++pre++[92,120,gL.getD (c.toNat / 16) 0,gL.getD (c.toNat%16) 0]) t B ?_ (by rw[dX];exact z)
     rcases P with⟨rfl,D,E⟩|⟨_,D⟩
     .unfold gw;rw[ab (by omega),ab A];simp
     .exact absurd (by omega) A
    dsimp only[kG.S4,ai];refine aS (λD=>aS (λE=>?_) (λE=>K (by omega))) (λD=>K (by omega));refine x.wO 0 oL (news:=([c]:List UInt8).map i4) rfl rfl (yv _) (by omega) (by omega) λt B z=>next (acc++pre++[c]) t B ?_ (by rw[dX];exact z)
    rcases P with⟨rfl,L,V⟩|⟨rfl,L⟩
    .unfold gw;rw[ab (by omega),ag (by omega)];simp
    .unfold gw;rw[ag L];simp
   have I:(c.toNat=34\/c.toNat=92)->kG.S3 s (bj #[48,49,50,51,52,53,54,55,56,57,97,98,99,100,101,102]) out (k:Int) (c.toNat:Int) q λr d=>r=ae (.string (ba (acc++(c::l).flatMap gw++[34])))/\ah w d:=λA=>
    y.wO 0 oL (news:=([92]:List UInt8).map i4) rfl rfl (yv _) (by omega) (by omega) λt B z=>tail [92] t B (by have:=aK.len (z.get 0);simp at this;omega) (.inr ⟨rfl,A⟩) (by rw[dX];exact z)
   refine ax (λA=>I (.inl (by omega))) (λD=>ax (λA=>I (.inr (by omega))) (λE=>?_));exact tail [] out q (by omega) (.inl ⟨rfl,by omega,by omega⟩) (by rw[cP];exact y)
 exact loop (bl s) 0 [34] _ q rfl (by omega) (by simp) Q
def Ur(c:UInt8):cw 16 (gL.getD (c.toNat / 16) 0)=true/\cw 16 (gL.getD (c.toNat%16) 0)=true/\dw (16 *ep (gL.getD (c.toNat / 16) 0)+ep (gL.getD (c.toNat%16) 0))=c:=
 lY (p:=λc=>cw 16 (gL.getD (c.toNat / 16) 0)=true/\cw 16 (gL.getD (c.toNat%16) 0)=true/\dw (16 *ep (gL.getD (c.toNat / 16) 0)+ep (gL.getD (c.toNat%16) 0))=c) (by decide+kernel) c
def Xl(c:UInt8)(l:List UInt8):qu (gw c++l)=(qu l).push c (gw c).length:=by
 unfold gw;split
 .rename_i d;show qu (92::c::l)=_;conv=>lhs;unfold qu
  rw[ab (by decide),ab (by decide)];simp only[];rw[ag d];rfl
 .rename_i d;split
  .rename_i e;show qu (c::l)=_;conv=>lhs;unfold qu
   rw[ab (by omega),ag (by omega),ab (by omega)];rfl
  .obtain ⟨h,e,j⟩:=Ur c;generalize gL.getD (c.toNat / 16) 0=x at *;generalize gL.getD (c.toNat%16) 0=y at *;show qu (92::120::x::y::l)=_;conv=>lhs;unfold qu
   rw[ab (by decide),ab (by decide)];simp only[];rw[ab (by decide),ab (by decide)];simp only[h,e,if_true,j];rfl
def No:∀(t l:List UInt8),qu (t.flatMap gw++[34]++l)=.ok t ((t.flatMap gw).length+1)
 |[],l=>by show qu (34::l)=_;unfold qu;rw[ag (by decide)];rfl
 |c::t,l=>by rw[df,hr,hr,Xl,<-hr,No t l,QR.push,b',Nat.add_assoc]
def Wk(t l:List UInt8):gd (kO t++l)=.tok 5 t (kO t).length:=by
 have d:kO t++l=34::(t.flatMap gw++[34]++l):=by unfold kO;simp
 have e:(kO t).length=1+((t.flatMap gw).length+1):=by unfold kO;simp;omega
 rw[d,e];unfold gd;simp only[];rw[ab (by decide),ab (by decide),ag (by decide),No t l]
def cQ(n:Nat):List UInt8:=if n<10 then[dw (48+n)]else[dw (48+n / 10),dw (48+n%10)]
def g5(k:Int):List UInt8:=[[98,118],[115,116,114],[97,114,114],[97,114,115]].getD k.toNat []
def kU(s:aU):List UInt8:=40::g5 s.k++(if s.k>1 then 32::cQ s.x.toNat else[])++32::cQ s.n.toNat++[41]
def eT(u n:Nat):List UInt8:=(List.range n).reverse.map λi=>if u.testBit i then 49 else 48
def lP:List (List UInt8):=[[],[],[],[],[110,111,116],[110,101,103],[97,110,100],[111,114],[120,111,114],[97,100,100],[109,117,108],[117,100,105,118],[117,114,101,109],[115,104,108],[108,115,104,114],[97,115,104,114],[117,108,116],[115,108,116],[101,113],[105,116,101],[99,111,110,99,97,116],[],[],[],[115,101,108,101,99,116],[115,116,111,114,101],[100,105,102,102],[108,101,110],[],[99,97,116],[115,117,98],[102,105,110,100],[114,101,112,108,97,99,101],[],[99,104,97,114]]
def jO:List (Int×List UInt8):=[(1,[110,117,109]),(3,[122,101,114,111]),(21,[101,120,116,114,97,99,116]),(22,[122,101,120,116]),(23,[115,101,120,116]),(28,[98,121,116,101]),(33,[105,110])]
def pj(op:Int)(o:List UInt8)(q:Int×List UInt8):List UInt8:=if q.1=op then q.2 else o
def dI(op:Int):List UInt8:=jO.foldl (pj op) (lP.getD op.toNat [])
def g2(d:Nx):List UInt8:=
 if d.op=21 then 32::cQ d.n.toNat++32::cQ d.m.toNat else
 if d.op=22\/d.op=23\/d.op=28 then 32::cQ d.n.toNat else
 if d.op=33 then 32::kO (bl d.tx)else[]
def ee:Nat->List Nx->Nat->List UInt8
 |0,_,_=>[]
 |f+1,g,i=>match g[i]? with
  |none=>[]
  |some d=>
   if d.op=0 then bl d.tx else if d.op=1 then 35::98::eT d.u.toNat d.st.n.toNat else if d.op=2 then kO (bl d.tx)else
   if d.op=3 then[40,122,101,114,111,32]++kU d.st++[41]else
   40::dI d.op++g2 d++d.kids.flatMap (λe=>32::ee f g e.toNat)++[41]
abbrev TK:=Int×List UInt8
def iT(s:aU):List TK:=[(0,[]),(2,g5 s.k)]++(if s.k>1 then[(4,cQ s.x.toNat)]else[])++[(4,cQ s.n.toNat),(1,[])]
def hL(d:Nx):List TK:=
 if d.op=21 then[(4,cQ d.n.toNat),(4,cQ d.m.toNat)]else
 if d.op=22\/d.op=23\/d.op=28 then[(4,cQ d.n.toNat)]else
 if d.op=33 then[(5,bl d.tx)]else[]
def eA:Nat->List Nx->Nat->List TK
 |0,_,_=>[]
 |f+1,g,i=>match g[i]? with
  |none=>[]
  |some d=>
   if d.op=0 then[(2,bl d.tx)]else if d.op=1 then[(3,35::98::eT d.u.toNat d.st.n.toNat)]else if d.op=2 then[(5,bl d.tx)]else
   if d.op=3 then[(0,[]),(2,[122,101,114,111])]++iT d.st++[(1,[])]else
   [(0,[]),(2,dI d.op)]++hL d++d.kids.flatMap (λe=>eA f g e.toNat)++[(1,[])]
def xq(r:List UInt8):Prop:=r=[]\/∃d e,r=d::e/\l6 d=true
def kt(t:aR):TK:=(t.kind,t.text)
def ej(l:List UInt8)(K:List TK):Prop:=∀(r:List UInt8) (p:Nat) (B:List aR),xq r->Lex (p+l.length) r B->∃d:List aR,d.map kt=K/\Lex p (l++r) (d++B)
def k7(l:List UInt8):Prop:=∃d e,l=d::e/\l6 d=true
def k7.r{l:List UInt8}(d:k7 l)(r:List UInt8):xq (l++r):=by obtain⟨j,h,rfl,e⟩:=d;exact .inr ⟨j,h++r,rfl,e⟩
def l5{x:UInt8}{r:List UInt8}(d:l6 x=true):k7 (x::r):=⟨x,r,rfl,d⟩
def k7.app{l:List UInt8}(d:k7 l)(r:List UInt8):k7 (l++r):=by obtain⟨j,h,rfl,e⟩:=d;exact⟨j,h++r,rfl,e⟩
def ej.nil:ej [] []:=λr p e _ d=>⟨[],rfl,d⟩
def ej.app{e d:List UInt8}{k q:List TK}(A:ej e k)(B:ej d q)(C:k7 d):ej (e++d) (k++q):=λr p j D w=>by obtain⟨h,z,F⟩:=B r (p+e.length) j D (by rw[b',<-Nat.add_assoc]at w;exact w);obtain⟨x,y,E⟩:=A (d++r) p (h++j) (C.r r) F;exact⟨x++h,by rw[dX,y,z],by rw[hr,hr];exact E⟩
def ej.sp{l:List UInt8}{K:List TK}(z:ej l K):ej (32::l) K:=λr p h A x=>by
 obtain⟨e,y,w⟩:=z r (p+1) h A (by rw[cT]at x;rw[Nat.add_assoc,Nat.add_comm 1];exact x);refine⟨e,y,?_⟩;show Lex p (32::(l++r)) (e++h);have d:cG false (32::(l++r))=cG false (l++r)+1:=by show(if kT 32 then 1+cG false (l++r)else _)=_;rw[ag (by decide),Nat.add_comm]
 generalize l++r=m at w d;generalize e++h=C at w;cases w with
 |fin q=>
  have j:p+1+cG false m=p+cG false (32::m):=by rw[d];omega
  rw[j];exact .fin (by rw[d];exact q)
 |tok q k=>
  have j:p+1+cG false m=p+cG false (32::m):=by rw[d];omega
  rw[j]at k ⊢;exact .tok (by rw[d];exact q) (by rw[d];rw[d]at k;exact k)
def ej.one{l t:List UInt8}{k:Int}(w:∀r,xq r->cG false (l++r)=0)(q:∀r,xq r->gd (l++r)=.tok k t l.length):ej l [(k,t)]:=λr p h e x=>by refine⟨[⟨k,t,p⟩],rfl,?_⟩;have d:=w r e;have j:=q r e;have:Lex p (l++r) (⟨k,t,p+cG false (l++r)⟩::h):=.tok (by rw[d,List.drop_zero];exact j) (by rw[d,List.drop_zero,yM];exact x);rw[d]at this;exact this
def B':ej [41] [(1,[])]:=.one (λr _=>rfl) (λr _=>rfl)
def I3(t:List UInt8):ej (kO t) [(5,t)]:=.one (λr _=>rfl) (λr _=>Wk t r)
def sh{t:List UInt8}{k:Int}(A:∃c l,t=c::l/\hy c=true)(B:∀d∈t,bL d=true)(z:ft t=(k,0)):ej t [(k,t)]:=by
 obtain⟨c,l,rfl,e⟩:=A;obtain⟨_,C,s3⟩:=O2 c e;have q:c.toNat≠40/\c.toNat≠41/\c.toNat≠34:=by have:∀c:UInt8,hy c=true->c.toNat≠40/\c.toNat≠41/\c.toNat≠34:=λc=>lY (p:=λc=>hy c=true->c.toNat≠40/\c.toNat≠41/\c.toNat≠34) (by decide+kernel) c;exact this c e
 refine .one (λr _=>?_) (λr w=>?_)
 .show (if kT c then _ else if c.toNat=59 then _ else 0)=0;rw[ab (by rw[C];simp),ab s3]
 .have h:((c::l)++r).takeWhile bL=c::l:=Cg (c::l) r B (by
   rcases w with rfl|⟨d,x,rfl,j⟩
   .exact .inl rfl
   .exact .inr ⟨d,x,rfl,Ib d j⟩)
  show gd (c::(l++r))=_;unfold gd;simp only[];rw[ab q.1,ab q.2.1,ab q.2.2,ag e];have h:(c::(l++r)).takeWhile bL=c::l:=h;rw[h,z];have y:(c::(l++r)).drop (c::l).length=r:=by show((c::l)++r).drop (c::l).length=r;exact yM
  simp only[y];rcases w with rfl|⟨d,x,rfl,j⟩
  .rfl
  .simp only[j];rfl
structure z7(G:List Nx)(d:Nx):Prop where
 ok:pJ G d
 op:0<=d.op/\d.op<=34
 st:bo d.st=true
 nm:d.op=0->h8 (bl d.tx)=true
 nu:d.op=1->d.st.k=0/\kB d.u d.st.n=false
 n1:d.op=21->0<=d.m/\d.m<=d.n/\d.n<=63
 n2:d.op=22\/d.op=23\/d.op=28->0<=d.n/\d.n<=64
 re:d.op=33->kD d.tx=true
def tG{g:List Nx}(x:Vg g){i:Nat}{d:Nx}(hd:g[i]? =some d):z7 (g.take i) d:=by
 have e:=x.ok i d hd;have w:=x.vV i d hd;have C:=x.val d (aB hd);have M:∀z,z<d.kids.length->bo (bx (g.take i) d z)=true:=λz K=>IQ (λD I=>x.val D (List.mem_of_mem_take I)) w.ki K;have k:=w.kl;have B:0<=d.op/\d.op<=34:=by
  unfold cl at k;split at k
  .omega
  .omega
 unfold bF at e;split at e
 .exact absurd (congrArg Prod.snd e) (by simp)
 split at e
 .rename_i F;refine⟨w,B,C,λE=>?_,λq=>?_,λe=>by omega,λe=>by omega,λe=>by omega⟩
  .unfold bQ at e;rw[ab (by omega)]at e;split at e
   .exact absurd (congrArg Prod.snd e) (by simp)
   .rename_i N;cases y:h8 (bl d.tx)with
    |true=>rfl
    |false=>exact absurd ⟨E,y⟩ N
  .unfold bQ at e;rw[ab (by omega),ab (by omega)]at e;split at e
   .exact absurd (congrArg Prod.snd e) (by simp)
   split at e
   .exact absurd (congrArg Prod.snd e) (by simp)
   split at e
   .exact absurd (congrArg Prod.snd e) (by simp)
   rename_i a b c;refine⟨Classical.byContradiction λL=>b (.inl ⟨q,L⟩),?_⟩;cases y:kB d.u d.st.n with
   |false=>rfl
   |true=>exact absurd ⟨q,y⟩ c
 .rename_i F;split at e
  .exact absurd (congrArg Prod.snd e) (by simp)
  rename_i P;split at e
  .exact absurd (congrArg Prod.snd e) (by simp)
  rename_i h;split at e
  .exact absurd (congrArg Prod.snd e) (by simp)
  rename_i H;have h:ie d (bx (g.take i) d 0) (bx (g.take i) d 1) (bx (g.take i) d 2)=true:=by simpa using h
  have A:d.op=21\/d.op=22\/d.op=23\/d.op=28->(bx (g.take i) d 0).n<=64/\0<=(bx (g.take i) d 0).n:=λQ=>by have:=M 0 (by unfold cl at k;split at k<;>(try split at k)<;>(try split at k)<;>omega);unfold bo at this;simp at this;omega
  refine⟨w,B,C,λe=>by omega,λe=>by omega,λq=>?_,λj=>?_,λG=>?_⟩
  .have:=A (.inl q);unfold ie at h;rw[ab (by omega),ag q]at h;simp at h;omega
  .have:=A (.inr j);unfold ie at h;rw[ab (by omega),ab (by omega)]at h;rcases j with j|j|j
   .rw [ag (.inl j)]at h;simp at h;omega
   .rw [ag (.inr j)]at h;simp at h;omega
   .rw [ab (by omega),ag j]at h;simp at h;omega
  .cases O:kD d.tx with
   |true=>rfl
   |false=>exact absurd ⟨G,O⟩ H
def Tb:∀n<100,(∃c l,cQ n=c::l/\hy c=true)/\(∀d∈cQ n,bL d=true)/\ft (cQ n)=(4,0):=by
 have h:∀n<100,((cQ n).head?.any hy&&(cQ n).all bL&&ao (ft (cQ n)=(4,0)))=true:=by decide+kernel
 intro n j;have:=h n j;simp only[a9,decide_eq_true_eq]at this;refine⟨?_,λd k=>dK.1 this.1.2 d k,this.2⟩;cases e:cQ n with
 |nil=>rw[e]at this;simp at this
 |cons c l=>rw[e]at this;exact⟨c,l,rfl,by simpa using this.1.1⟩
def u0{n:Nat}(d:n<100):ej (cQ n) [(4,cQ n)]:=by obtain⟨a,b,c⟩:=Tb n d;exact sh a b c
def F1{u n:Nat}{x:UInt8}(d:x∈eT u n):x=48\/x=49:=by
 obtain⟨i,_,rfl⟩:=cz.1 d;split
 .exact .inr rfl
 .exact .inl rfl
def oG(u n:Nat):(eT u n).length=n:=by unfold eT;simp
def Vk{u n:Nat}(w:1<=n)(x:n<=64):ej (35::98::eT u n) [(3,35::98::eT u n)]:=by
 have j:=oG u n;have h:(eT u n).all (cw 2)=true:=dK.2 λe d=>by rcases F1 d with rfl|rfl<;>decide
 have k:∀e∈eT u n,bL e=true:=λe d=>by rcases F1 d with rfl|rfl<;>decide
 refine sh ⟨_,_,rfl,by decide⟩ (λe d=>?_) ?_
 .rcases aE.1 d with rfl|d
  .decide
  .rcases aE.1 d with rfl|d
   .decide
   .exact k e d
 .generalize eT u n=b at *;cases b with
  |nil=>simp at j;omega
  |cons q r=>
   unfold ft;simp only[];rw[ab (by decide),ab (by decide)];unfold r4;dsimp only;rw[ag (by decide),ag h,ab (by omega)]
def Vm{t:List UInt8}(h:h8 t=true):ej t [(2,t)]:=by
 unfold h8 at h;cases t with
 |nil=>cases h
 |cons c m=>
  simp only[a9,decide_eq_true_eq]at h;obtain⟨⟨B,j⟩,x⟩:=h;have w:nR c=true:=j;have q:∀d:UInt8,dC d=true->bL d=true/\d.toNat≠35:=λd=>lY (p:=λd=>dC d=true->bL d=true/\d.toNat≠35) (by decide+kernel) d;have z:dC c=true:=by unfold dC;rw[j];rfl
  have k:∀d∈c::m,dC d=true:=λd e=>by
   rcases aE.1 e with rfl|e
   .exact z
   .exact dK.1 x d e
  refine sh ⟨c,m,rfl,by unfold hy;rw[w];rfl⟩ (λd e=>(q d (k d e)).1) ?_;unfold ft;simp only[];rw[ag w,ab,ab (by simp;omega)];intro y;obtain⟨d,e,A⟩:=List.any_eq_true.1 y;exact(q d (k d e)).2 (by simpa using A)
def WS{op:Int}(k:4<=op)(q:op<=34):(∃c l,dI op=c::l/\hy c=true)/\(∀d∈dI op,bL d=true)/\ft (dI op)=(2,0):=by
 have h:∀n<31,((dI ((n+4:Nat):Int)).head?.any hy&&(dI ((n+4:Nat):Int)).all bL&&ao (ft (dI ((n+4:Nat):Int))=(2,0)))=true:=by decide+kernel
 have:=h (op - 4).toNat (by omega);rw[show(((op - 4).toNat+4:Nat):Int)=op by omega]at this;simp only[a9,decide_eq_true_eq]at this;refine⟨?_,λd j=>dK.1 this.1.2 d j,this.2⟩;cases e:dI op with
 |nil=>rw[e]at this;simp at this
 |cons c l=>rw[e]at this;exact⟨c,l,rfl,by simpa using this.1.1⟩
def Vn{op:Int}(d:4<=op)(e:op<=34):ej (dI op) [(2,dI op)]:=by obtain⟨a,b,c⟩:=WS d e;exact sh a b c
def YH{k:Int}(d:0<=k)(e:k<=3):ej (g5 k) [(2,g5 k)]:=by
 have:k=0\/k=1\/k=2\/k=3:=by omega
 rcases this with rfl|rfl|rfl|rfl<;>exact sh ⟨_,_,rfl,by decide⟩ (by decide) (by decide)
def wk{s:aU}(d:bo s=true):0<=s.k/\s.k<=3/\0<=s.n/\s.n<=64/\0<=s.x/\s.x<=16:=by unfold bo at d;simp at d;omega
def Vo{s:aU}(w:bo s=true):ej (kU s) (iT s):=by
 obtain⟨a,b,c,F,G,f⟩:=wk w;unfold kU iT;have C:=YH a b;have A:ej (32::cQ s.n.toNat) [(4,cQ s.n.toNat)]:=(u0 (by omega)).sp;have z:k7 (32::cQ s.n.toNat):=l5 (by decide);have y:k7 [41]:=l5 (by decide);have D:ej (40::g5 s.k++(if s.k>1 then 32::cQ s.x.toNat else[])) ([(0,[]),(2,g5 s.k)]++(if s.k>1 then[(4,cQ s.x.toNat)]else[])):=by
  have e:ej (40::g5 s.k) [(0,[]),(2,g5 s.k)]:=by intro r p j B d;obtain⟨h,q,E⟩:=C r (p+1) j B (by rw[cT]at d;rw[Nat.add_assoc,Nat.add_comm 1];exact d);refine⟨⟨0,[],p⟩::h,by rw[iQ,q];rfl,?_⟩;exact .tok (i:=p) (l:=40::(g5 s.k++r)) (u:=1) rfl E
  split
  .exact e.app (u0 (by omega)).sp (l5 (by decide))
  .rw [cP,cP];exact e
 have:=(D.app A z).app B' y;simpa using this
def Vl{G:List Nx}{d:Nx}(e:z7 G d):ej (g2 d) (hL d)/\(g2 d=[]\/k7 (g2 d)):=by
 unfold g2 hL;split
 .rename_i h;obtain⟨a,b,c⟩:=e.n1 h;exact⟨(u0 (by omega)).sp.app (u0 (by omega)).sp (l5 (by decide)),.inr (l5 (by decide))⟩
 split
 .rename_i j;obtain⟨a,b⟩:=e.n2 (by omega);exact⟨(u0 (by omega)).sp,.inr (l5 (by decide))⟩
 split
 .exact ⟨(I3 _).sp,.inr (l5 (by decide))⟩
 .exact ⟨.nil,.inl rfl⟩
def Mk{g:List Nx}(F:Vg g):∀(f i:Nat),i<f->i<g.length->ej (ee f g i) (eA f g i)
 |0,i,L,_=>absurd L (by omega)
 |f+1,i,L,D=>by
  have z:g[i]? =some (g[i]'D):=a5 D;generalize g[i]'D=d at z;have q:=tG F z;unfold ee eA;rw[z];dsimp only;split
  .rename_i P;exact Vm (q.nm P)
  split
  .rename_i x;obtain⟨k0,_⟩:=q.nu x;have:=q.st;unfold bo at this;simp at this;exact Vk (by omega) (by omega)
  split
  .exact I3 _
  split
  .have W:ej [40,122,101,114,111] [(0,[]),(2,[122,101,114,111])]:=by intro r p B E y;obtain⟨A,j,K⟩:=(sh (t:=[122,101,114,111]) (k:=2) ⟨_,_,rfl,by decide⟩ (by decide) (by decide)) r (p+1) B E (by rw[Nat.add_assoc];exact y);refine⟨⟨0,[],p⟩::A,by rw[iQ,j];rfl,?_⟩;exact .tok (i:=p) (l:=40::([122,101,114,111]++r)) (u:=1) rfl K
   have T:ej (32::kU d.st) (iT d.st):=(Vo q.st).sp;have:=(W.app T (l5 (by decide))).app B' (l5 (by decide));simpa using this
  .rename_i a0 a1 a2 a3;have S:=q.op;have V:=Vn (op:=d.op) (by omega) S.2;have N:ej (40::dI d.op) [(0,[]),(2,dI d.op)]:=by intro r p B E y;obtain⟨A,j,K⟩:=V r (p+1) B E (by rw[cT]at y;rw[Nat.add_assoc,Nat.add_comm 1];exact y);refine⟨⟨0,[],p⟩::A,by rw[iQ,j];rfl,?_⟩;exact .tok (i:=p) (l:=40::(dI d.op++r)) (u:=1) rfl K
   have O:ej (40::dI d.op++g2 d) ([(0,[]),(2,dI d.op)]++hL d):=by
    obtain⟨m1,I⟩:=Vl q;rcases I with h|I
    .have:hL d=[]:=by
      unfold g2 hL at *;split at h
      .cases h
      split at h
      .cases h
      split at h
      .cases h
      .rename_i q1 q2 q3;rw[ab q1,ab q2,ab q3]
     rw[h,this,cP,cP];exact N
    .exact N.app m1 I
   have w:∀(ks:List Int),(∀e∈ks,0<=e/\e<(i:Int))->ej (ks.flatMap λe=>32::ee f g e.toNat) (ks.flatMap λe=>eA f g e.toNat)/\((ks.flatMap λe=>32::ee f g e.toNat)=[]/\(ks.flatMap λe=>eA f g e.toNat)=[]\/k7 (ks.flatMap λe=>32::ee f g e.toNat)):=by
    intro ks;induction ks with
    |nil=>intro _;exact⟨.nil,.inl ⟨rfl,rfl⟩⟩
    |cons e ks Z=>
     intro M;have aa:=M e me;obtain⟨Y,G⟩:=Z λe w=>M e (cH _ w);have x:ej (32::ee f g e.toNat) (eA f g e.toNat):=(Mk F f e.toNat (by omega) (by omega)).sp;rw[df,df];refine⟨?_,.inr (k7.app (l5 (by decide)) _)⟩;rcases G with⟨j,C⟩|G
     .rw [j,C,cP,cP];exact x
     .exact x.app Y G
   obtain⟨k1,H⟩:=w d.kids λe w=>by have:=F.kids z e w;omega
   have Q:ej (40::dI d.op++g2 d++d.kids.flatMap λe=>32::ee f g e.toNat) ([(0,[]),(2,dI d.op)]++hL d++d.kids.flatMap λe=>eA f g e.toNat):=by
    rcases H with⟨j,C⟩|H
    .rw [j,C,cP,cP];exact O
    .exact O.app k1 H
   have:=Q.app B' (l5 (by decide));simpa using this
def Ml{g:List Nx}(k:Vg g){i:Nat}(hi:i<g.length)(j:(ee (i+1) g i).length<=65536):∃d e,tokens (ee (i+1) g i)=.ok (d++[⟨6,[],e⟩])/\d.map kt=eA (i+1) g i:=by obtain⟨d,e,h⟩:=Mk k (i+1) i (Nat.lt_succ_self _) hi [] 0 [⟨6,[],0+(ee (i+1) g i).length+0⟩] (.inl rfl) (.fin rfl);rw[cP]at h;exact⟨d,_,of_lex h j,e⟩
def fH(d:Nx)(ks:List Int):Nx:={d with kids:=ks,st:=if d.op=1\/d.op=3 then d.st else bg}
def iI(F:Nat->List Nx->Option (Nat×List Nx)):List Int->List Nx->Option (List Int×List Nx)
 |[],d=>some ([],d)
 |e::h,d=>(F e.toNat d).bind λa=>(iI F h a.2).map λl=>((a.1:Int)::l.1,l.2)
def h7(vs:List (List UInt8×Nat))(g:List Nx):Nat->Nat->List Nx->Option (Nat×List Nx)
 |0,_,_=>none
 |f+1,i,e=>(g[i]?).bind λd=>
  if d.op=0 then(lk vs (bl d.tx)).map λh=>(h,e)else
  (iI (h7 vs g f) d.kids e).bind λa=>if(b6 a.2 (fH d a.1)).2.2=0 then some ((b6 a.2 (fH d a.1)).2.1.toNat,(b6 a.2 (fH d a.1)).1)else none
def fE(T:List aR)(p:Nat)(K:List TK):Prop:=∃r,(T.drop p).map kt=K++r
def fE.app{T:List aR}{p:Nat}{e h:List TK}(d:fE T p (e++h)):fE T p e/\fE T (p+e.length) h:=by obtain⟨r,d⟩:=d;rw[hr]at d;refine⟨⟨_,d⟩,r,?_⟩;have:=congrArg (List.drop e.length) d;rw[yM,<-List.map_drop,List.drop_drop]at this;exact this
def fE.cons{T:List aR}{p:Nat}{k:Int}{t:List UInt8}{K:List TK}(d:fE T p ((k,t)::K)):(aW T p).kind=k/\(aW T p).text=t/\p<T.length/\fE T (p+1) K:=by
 obtain⟨r,d⟩:=d;have j:p<T.length:=by
  rcases Nat.lt_or_ge p T.length with e|e
  .exact e
  .rw [de e]at d;cases d
 rw[dk j,iQ,sW,List.cons.injEq]at d;have q:aW T p=T[p]:=by unfold aW;rw[List.getD_eq_getElem?_getD,a5 j];rfl
 rw[q];have h:=d.1;unfold kt at h;exact⟨congrArg Prod.fst h,congrArg Prod.snd h,j,⟨r,d.2⟩⟩
section
variable {T:List aR} {s:aI}
def FC{t:aR}(d:t.kind≠6):cK t s={s with p:=s.p+1}:=ab d
def qt{k:Int}{t:List UInt8}{K:List TK}(e:fE T s.p ((k,t)::K))(h:k≠6):bM T k s=.ok (aW T s.p) {s with p:=s.p+1}/\(aW T s.p).text=t/\fE T (s.p+1) K:=by obtain⟨a,b,c,d⟩:=e.cons;refine⟨?_,b,d⟩;unfold bM;rw[ag a,FC (by rw[a];exact h)]
def Uz{t:List UInt8}{K:List TK}(d:fE T s.p ((4,t)::K)):dm T s=.ok ((cV 10 t:Nat):Int) {s with p:=s.p+1}/\fE T (s.p+1) K:=by obtain⟨a,b,c⟩:=qt d (by decide);unfold dm;rw[a];show PR.ok _ _=_/\_;rw[b];exact⟨rfl,c⟩
def Tc:∀n<100,cV 10 (cQ n)=n:=by decide+kernel
def uq{n:Int}{K:List TK}(d:fE T s.p ((4,cQ n.toNat)::K))(e:0<=n)(h:n<100):dm T s=.ok n {s with p:=s.p+1}/\fE T (s.p+1) K:=by obtain⟨a,b⟩:=Uz d;rw[Tc _ (by omega),Int.toNat_of_nonneg e]at a;exact⟨a,b⟩
def YI:∀k<4,tg (g5 ((k:Nat):Int))=some ((k:Nat):Int):=by decide
def YC{d:aU}{K:List TK}(j:bo d=true)(h:fE T s.p (iT d++K)):ic T s=.ok d {s with p:=s.p+(iT d).length}/\fE T (s.p+(iT d).length) K:=by
 obtain⟨a,b,c,Q,E,f⟩:=wk j;have I:¬d.k>1->d.x=0:=λe=>by unfold bo at j;simp at j;omega
 refine⟨?_,h.app.2⟩;unfold iT at h;have h:fE T s.p ((0,[])::(2,g5 d.k)::((if d.k>1 then[(4,cQ d.x.toNat)]else[])++((4,cQ d.n.toNat)::(1,[])::K))):=by simpa using h
 obtain⟨L,_,O⟩:=qt h (by decide);obtain⟨M,A,w⟩:=qt (s:={s with p:=s.p+1}) O (by decide);have C:=YI d.k.toNat (by omega);rw[Int.toNat_of_nonneg a]at C;unfold ic;rw[L];show PR.b (bM T 2 {s with p:=s.p+1}) _=_;rw[M];show(match tg (aW T (s.p+1)).text with
  |none=>jl (aW T (s.p+1))
  |some q=>(if q=2\/q=3 then dm T {s with p:=s.p+1+1}else .ok 0 {s with p:=s.p+1+1}).b λx s'=>(dm T s').b λn s'=>(bM T 1 s').b λ_ s'=>
   if bo ⟨q,n,x⟩then .ok (⟨q,n,x⟩:aU) s' else .er 9 (aW T s.p).a3)=_
 have A:(aW T (s.p+1)).text=g5 d.k:=A;rw[A,C];dsimp only;have fin:∀(s':aI) (x:Int),x=d.x->s'.tm=s.tm->s'.g=s.g->s'.p+2=s.p+(iT d).length->fE T s'.p ((4,cQ d.n.toNat)::(1,[])::K)->((dm T s').b λn s'=>(bM T 1 s').b λ_ s'=>if bo ⟨d.k,n,x⟩then PR.ok (⟨d.k,n,x⟩:aU) s' else .er 9 (aW T s.p).a3)=.ok d {s with p:=s.p+(iT d).length}:=by intro s' x H D B G F;obtain⟨y,z⟩:=uq F c (by omega);obtain⟨N,_,S⟩:=qt (s:={s' with p:=s'.p+1}) z (by decide);rw[y];show PR.b (bM T 1 {s' with p:=s'.p+1}) _=_;rw[N];subst H;show(if bo d=true then PR.ok d {s' with p:=s'.p+1+1}else _)=_;rw[ag j];obtain⟨P,st,V⟩:=s';dsimp only at D B G ⊢;subst D B;rw[show P+1+1=s.p+(iT d).length by omega]
 by_cases e:d.k>1
 .rw [ag (show d.k=2\/d.k=3 by omega)];rw[ag e]at w;obtain⟨y,z⟩:=uq (s:={s with p:=s.p+1+1}) w E (by omega);rw[y];exact fin {s with p:=s.p+1+1+1} d.x rfl rfl rfl (by unfold iT;rw[ag e];simp) z
 .rw [ab (show ¬(d.k=2\/d.k=3)by omega)];rw[ab e]at w;exact fin {s with p:=s.p+1+1} 0 (I e).symm rfl rfl (by unfold iT;rw[ab e];simp) w
def N7{t:List UInt8}(d:iO t=true):gP t=(t,0):=by
 unfold iO at d;unfold gP;cases h:Nat.blt 4096 t.length with
 |true=>rw[h]at d;cases d
 |false=>
  rw[h]at d;have:¬4096<t.length:=λe=>by rw[<-Nat.blt_eq,h]at e;cases e
  rw[ab this];dsimp only[cond_false]at d;cases q:g6 t with
  |inl a=>rw[q]at d;cases d
  |inr k=>
   rw[q]at d;dsimp only at d ⊢;cases j:Nat.blt 64 (cu k.tp).sz with
   |true=>rw[j]at d;cases d
   |false=>
    rw[j]at d;have:¬64<(cu k.tp).sz:=λe=>by rw[<-Nat.blt_eq,j]at e;cases e
    rw[ab this];split at d
    .rename_i w;rw[ag w];split at d
     .rename_i x;rw[ag x,eq_of_beq d]
     .cases d
    .cases d
end
def Mh(w:List UInt8):Bool:=ao (w≠[110,117,109])&&ao (w≠[122,101,114,111])&&ao (w≠[101,120,116,114,97,99,116])&&ao (w≠[122,101,120,116])&&ao (w≠[115,101,120,116])&&ao (w≠[98,121,116,101])&&ao (w≠[105,110])
def My:∀n<31,((n+4=21\/n+4=22\/n+4=23\/n+4=28\/n+4=33)\/Mh (dI ((n+4:Nat):Int))=true/\lk fM (dI ((n+4:Nat):Int))=some (((n+4:Nat):Int),(cl ((n+4:Nat):Int)).toNat))/\l7 (dI ((n+4:Nat):Int))=true:=by decide+kernel
section
variable {T:List aR} {s:aI}
def Uo{G:List Nx}{d:Nx}(hd:z7 G d)(h4:4<=d.op){K:List TK}(e:fE T s.p (hL d++K)):i7 T (dI d.op) s=.ok (fH d [],d.kids.length) {s with p:=s.p+(hL d).length}/\fE T (s.p+(hL d).length) K:=by
 refine⟨?_,e.app.2⟩;have ac:=hd.op;have B:=hd.ok.ok;have aa:=hd.ok.kl;have S:d.kids.length=(cl d.op).toNat:=by omega
 rw[S];obtain⟨op,kids,n,m,u,h,st⟩:=d;dsimp only at *;unfold hq at B;simp only[a9,Bool.or_eq_true,beq_iff_eq,decide_eq_true_eq]at B;obtain⟨⟨⟨W,E⟩,o3⟩,Y⟩:=B;have V:u=0:=by omega
 have O:fH ⟨op,kids,n,m,u,h,st⟩ []=⟨op,[],n,m,0,h,bg⟩:=by unfold fH;dsimp only;rw[ab (by omega),V]
 rw[O];have mk:hL ⟨op,kids,n,m,u,h,st⟩=if op=21 then[(4,cQ n.toNat),(4,cQ m.toNat)]else if op=22\/op=23\/op=28 then[(4,cQ n.toNat)]else if op=33 then[(5,bl h)]else[]:=rfl;generalize hL ⟨op,kids,n,m,u,h,st⟩=mid at mk e ⊢;have D:¬(op=0\/op=2\/op=33)->h=ba []:=λe=>Y.resolve_left (by unfold lr;simp;omega);have kM:¬(op=21\/op=22\/op=23\/op=28)->n=0:=λe=>W.resolve_left (by unfold lq;simp;omega);have one:∀(w:List UInt8),(op=22\/op=23\/op=28)->(dm T s).b (λn s=>.ok ((⟨op,[],n,0,0,ba [],bg⟩:Nx),1) s)=.ok (⟨op,[],n,m,0,h,bg⟩,(cl op).toNat) {s with p:=s.p+mid.length}:=λw A=>by
  rw[ab (by omega),ag A]at mk;rw[mk]at e ⊢;obtain⟨j,q⟩:=hd.n2 A;have j:0<=n:=j;have q:n<=64:=q;obtain⟨k,_⟩:=uq e j (by omega);rw[k,D (by omega),E.resolve_left (by omega)];have Q:(cl op).toNat=1:=by rcases A with rfl|rfl|rfl<;>decide
  rw[Q];rfl
 by_cases x:op=21
 .rw [ag x]at mk;rw[mk]at e ⊢;subst x;obtain⟨j,q,F⟩:=hd.n1 rfl;have j:0<=m:=j;have q:m<=n:=q;have F:n<=63:=F;obtain⟨k,Z⟩:=uq (s:=s) e (by omega) (by omega);obtain⟨H,r2⟩:=uq (s:={s with p:=s.p+1}) Z j (by omega);show PR.b (dm T s) (λn s=>(dm T s).b λm s=>.ok ((⟨21,[],n,m,0,ba [],bg⟩:Nx),1) s)=_;rw[k];show PR.b (dm T {s with p:=s.p+1}) _=_;rw[H,D (by omega)];rfl
 by_cases L:op=22
 .subst L;exact one [] (.inl rfl)
 by_cases M:op=23
 .subst M;exact one [] (.inr (.inl rfl))
 by_cases N:op=28
 .subst N;exact one [] (.inr (.inr rfl))
 by_cases z:op=33
 .rw [ab x,ab (by omega),ag z]at mk;rw[mk]at e ⊢;subst z;obtain⟨k,t1,_⟩:=qt (s:=s) e (by decide);have P:iO (bl h)=true:=hd.re rfl;show PR.b (PR.b (bM T 5 s) _) (λr s=>.ok ((⟨33,[],0,0,0,ba r,bg⟩:Nx),1) s)=_;rw[k];show PR.b (if(gP (aW T s.p).text).2=0 then PR.ok (gP (aW T s.p).text).1 {s with p:=s.p+1}else .er (gP (aW T s.p).text).2 (aW T s.p).a3) _=_;rw[t1,N7 P,kM (by omega),E.resolve_left (by omega)];rw[ag rfl];show PR.ok ((⟨33,[],0,0,0,ba (bl h),bg⟩:Nx),1) _=_;rw[jx];rfl
 .rw [ab x,ab (by omega),ab z]at mk;rw[mk]at e ⊢;have C:=(My (op - 4).toNat (by omega)).1;rw[show(((op - 4).toNat+4:Nat):Int)=op by omega]at C;rcases C with C|⟨y,I⟩
  .omega
  .unfold Mh at y;simp only[a9,decide_eq_true_eq]at y;obtain⟨⟨⟨⟨⟨⟨w1,w2⟩,w3⟩,w4⟩,w5⟩,w6⟩,w7⟩:=y;unfold i7;rw[ab w1,ab w2,ab w3,ab w4,ab w5,ab w6,ab w7,I,D (by omega),kM (by omega),E.resolve_left (by omega)];rfl
def UL{op:Int}(d:4<=op)(e:op<=34):l7 (dI op)=true:=by
 have:=(My (op - 4).toNat (by omega)).2
 rwa[show(((op - 4).toNat+4:Nat):Int)=op by omega]at this
end
def Mm(u:Nat):∀(n k:Nat),k<=n->u<2^n->cV 2 ((eT u n).take k)=u / 2^(n - k)
 |n,0,_,e=>by rw[List.take_zero,Nat.sub_zero,Nat.div_eq_of_lt e];rfl
 |n,k+1,w,e=>by
  have h:=Mm u n k (by omega) e;have x:=oG u n;have q:(eT u n)[k]? =some (if u.testBit (n - 1 - k)then 49 else 48):=by unfold eT;rw[qG,List.getElem?_reverse (by simp;omega)];simp only[List.length_range];rw[List.getElem?_range (by omega)];rfl
  rw[g3,q];unfold cV at h ⊢;rw[List.foldl_append,h];show 2 *(u / 2^(n - k))+ep (if u.testBit (n - 1 - k)then 49 else 48)=_;have j:u / 2^(n - k)=u / 2^(n - 1 - k) / 2:=by rw[Nat.div_div_eq_div_mul,<-Nat.pow_succ,show(n - 1 - k).succ=n - k by omega]
  rw[j,show n - (k+1)=n - 1 - k by omega,Nat.testBit_eq_decide_div_mod_eq];have d:u / 2^(n - 1 - k)%2=0\/u / 2^(n - 1 - k)%2=1:=by omega
  rcases d with d|d<;>rw[d]
  .show _+0=_;omega
  .show _+1=_;omega
def Rf{u n:Int}(d:kB u n=false)(k:0<=u)(w:u<18446744073709551616)(q:1<=n/\n<=64):u.toNat<2^n.toNat:=by
 unfold kB at d;by_cases h:n<64
 .have j:¬(2^n.toNat<=u):=by simpa[h]using d
  have e:((2:Int)^n.toNat)=((2^n.toNat:Nat):Int):=by rw[Int.natCast_pow];rfl
  rw[e]at j;omega
 .have:n.toNat=64:=by omega
  rw[this];have:(2:Nat)^64=18446744073709551616:=by decide
  omega
def NA{g:List Nx}(hv:Vg g)(hu:∀d∈g,0<=d.u/\d.u<18446744073709551616):∀(n f i:Nat) (E:bS) (s:aI) (k:Nat) (G:List Nx),i<n->i<g.length->h7 E.vs g n i s.g=some (k,G)->fE E.T s.p (eA n g i)->(eA n g i).length<=f->E.dp+i<64->s.tm+cW n g i<=65536->(∀d∈g,d.op=0->lk E.pm (bl d.tx)=none)->
  fQ f E s=.ok k ⟨s.p+(eA n g i).length,s.tm+cW n g i,G⟩
 |0,f,i,E,s,k,G,ad,_,_,_,_,_,_,_=>absurd ad (by omega)
 |n+1,f,i,E,s,k,G,ad,hi,q,hK,hf,aF,aK,ai=>by
  have L:g[i]? =some (g[i]'hi):=a5 hi;generalize g[i]'hi=d at L;have ah:=aB L;have D:=tG hv L;have ax:=D.op;have ap:=D.ok.kl;have ao:=λk M=>hv.kids L k M;unfold h7 at q;rw[L]at q;have q:(if d.op=0 then(lk E.vs (bl d.tx)).map λk=>(k,s.g)else(iI (h7 E.vs g n) d.kids s.g).bind λa=>if(b6 a.2 (fH d a.1)).2.2=0 then some ((b6 a.2 (fH d a.1)).2.1.toNat,(b6 a.2 (fH d a.1)).1)else none)=some (k,G):=q;have ac:cW (n+1) g i=d.kids.foldl (λI k=>I+cW n g k.toNat) 1:=by
   conv=>lhs;unfold cW
   rw[L]
  have w:eA (n+1) g i=if d.op=0 then[(2,bl d.tx)]else if d.op=1 then[(3,35::98::eT d.u.toNat d.st.n.toNat)]else if d.op=2 then[(5,bl d.tx)]else
   if d.op=3 then[(0,[]),(2,[122,101,114,111])]++iT d.st++[(1,[])]else
   [(0,[]),(2,dI d.op)]++hL d++d.kids.flatMap (λk=>eA n g k.toNat)++[(1,[])]:=by
   conv=>lhs;unfold eA
   rw[L]
  rw[fold_add]at ac;generalize aD:cW (n+1) g i=SZ at *;generalize aE:eA (n+1) g i=TKN at *;have aH:1<=TKN.length:=by
   rw[w];split
   .simp
   split
   .simp
   split
   .simp
   split<;>simp
  obtain⟨f,rfl⟩:∃f',f=f'+1:=⟨f - 1,by omega⟩;show ji (fQ f) E s=_;have Q:d.op<=3->d.kids=[]:=λC=>by
   have:cl d.op=0:=by unfold cl;rw[ab (by omega),ag C]
   rw[this]at ap;exact List.length_eq_zero_iff.1 (by omega)
  have W:d.op<=3->SZ=1:=λC=>by rw[ac,Q C];rfl
  have start:∀(kd:Int) (N:List UInt8) (K:List TK),TKN=(kd,N)::K->kd≠1->kd≠4->kd≠6->(aW E.T s.p).kind=kd/\(aW E.T s.p).text=N/\fE E.T (s.p+1) K/\
    ji (fQ f) E s=if kd=2 then mY (fQ f) E (aW E.T s.p) {s with p:=s.p+1,tm:=s.tm+1}else if kd=3 then eR {s with p:=s.p+1,tm:=s.tm+1} (e7 (aW E.T s.p).text) (aW E.T s.p)else
     if kd=5 then eR {s with p:=s.p+1,tm:=s.tm+1} ⟨2,[],0,0,0,ba (aW E.T s.p).text,bg⟩ (aW E.T s.p)else mH (fQ f) E (aW E.T s.p) {s with p:=s.p+1,tm:=s.tm+1}:=λkd N K B h h4 h6=>by rw[B]at hK;obtain⟨a,b,c,A⟩:=hK.cons;refine⟨a,b,A,?_⟩;unfold ji;dsimp only;rw[ab (by omega),ab (by omega),FC (by omega),a]
  by_cases h0:d.op=0
  .rw [ag h0]at q w;obtain⟨a,b,_,B⟩:=start 2 (bl d.tx) [] w (by decide) (by decide) (by decide);rw[B,ag rfl];unfold mY;rw[b,ai d ah h0];dsimp only;cases hl:lk E.vs (bl d.tx)with
   |none=>rw[hl]at q;cases q
   |some k'=>
    rw[hl]at q;have q:(k',s.g)=(k,G):=by simpa using q
    cases q;rw[w,W (by omega)];rfl
  rw[ab h0]at q w;have added:∀(ks:List Int) (e:List Nx) (j:aI) (H:Nx) (t:aR),iI (h7 E.vs g n) d.kids s.g=some (ks,e)->j.g=e->H=fH d ks->eR j H t=.ok k {j with g:=G}:=λks e j H t h P C=>by
   rw[h]at q;have q:(if(b6 e (fH d ks)).2.2=0 then some ((b6 e (fH d ks)).2.1.toNat,(b6 e (fH d ks)).1)else none)=some (k,G):=q;split at q
   .rename_i hz;cases q;unfold eR;rw[P,C,ag hz]
   .cases q
  by_cases h:d.op=1
  .rw [ag h]at w;obtain⟨a,b,_,B⟩:=start 3 _ [] w (by decide) (by decide) (by decide);rw[B,ab (by decide),ag rfl,b];have F:iI (h7 E.vs g n) d.kids s.g=some ([],s.g):=by rw[Q (by omega)];rfl
   obtain⟨Y,S⟩:=hu d ah;obtain⟨ak,aC⟩:=D.nu h;have aa:=D.st;have aj:d.st=a' d.st.n/\1<=d.st.n/\d.st.n<=64:=by
    unfold bo at aa;rw[ak]at aa;simp at aa;have aA:d.st.x=0:=by omega
    refine⟨?_,by omega,by omega⟩;show(⟨d.st.k,d.st.n,d.st.x⟩:aU)=_;rw[ak,aA];rfl
   have av:e7 (35::98::eT d.u.toNat d.st.n.toNat)=fH d []:=by
    have aq:=Rf aC Y S aj.2;have hb:=Mm d.u.toNat d.st.n.toNat d.st.n.toNat (be _) aq;rw[dM (by rw[oG];exact be _),Nat.sub_self,Nat.pow_zero,Nat.div_one]at hb;unfold e7;rw[ab (show ¬((35:UInt8)::98::eT d.u.toNat d.st.n.toNat)[1]? =some 120 by show ¬some (98:UInt8)=some 120;decide)]
    show(⟨1,[],0,0,(cV 2 (eT d.u.toNat d.st.n.toNat):Int),ba [],a' (((35:UInt8)::98::eT d.u.toNat d.st.n.toNat).length - 2:Nat)⟩:Nx)=_;rw[hb,cT,cT,oG,show d.st.n.toNat+1+1 - 2=d.st.n.toNat by omega,Int.toNat_of_nonneg Y,Int.toNat_of_nonneg (by omega),<-aj.1];have z:=D.ok.ok;have aG:=Q (by omega);obtain⟨op,kids,nn,m,u,N,st⟩:=d;dsimp only at *;subst h;unfold hq at z;simp[lq,lr]at z;unfold fH;simp[z]
   have:=added [] s.g {s with p:=s.p+1,tm:=s.tm+1} _ (aW E.T s.p) F rfl av;rw[this,w,W (by omega)];rfl
  rw[ab h]at w;by_cases P:d.op=2
  .rw [ag P]at w;obtain⟨a,b,_,B⟩:=start 5 _ [] w (by decide) (by decide) (by decide);rw[B,ab (by decide),ab (by decide),ag rfl,b];have F:iI (h7 E.vs g n) d.kids s.g=some ([],s.g):=by rw[Q (by omega)];rfl
   have:=added [] s.g {s with p:=s.p+1,tm:=s.tm+1} ⟨2,[],0,0,0,ba (bl d.tx),bg⟩ (aW E.T s.p) F rfl (by have z:=D.ok.ok;obtain⟨op,kids,nn,m,u,N,st⟩:=d;dsimp only at *;subst P;unfold hq at z;simp[lq,lr]at z;unfold fH;simp[z,jx])
   rw[this,w,W (by omega)];rfl
  rw[ab P]at w;have comp:∀(wd:List UInt8) (K:List TK) (H:Nx) (y:aI) (ks:List Int) (e:List Nx),TKN=(0,[])::(2,wd)::K->l7 wd=true->(fE E.T (s.p+2) K->jc E.T (fQ f {E with dp:=E.dp+1}) wd {s with p:=s.p+1+1,tm:=s.tm+1}=.ok H y/\fE E.T y.p [(1,[])])->
    iI (h7 E.vs g n) d.kids s.g=some (ks,e)->y.g=e->H=fH d ks->y.p+1=s.p+TKN.length->y.tm=s.tm+SZ->ji (fQ f) E s=.ok k ⟨s.p+TKN.length,s.tm+SZ,G⟩:=λwd K H y ks e B aw au al am an hp ht=>by obtain⟨a,b,c,Z⟩:=start 0 [] _ B (by decide) (by decide) (by decide);rw[Z,ab (by decide),ab (by decide),ab (by decide)];obtain⟨Y,S,q3⟩:=qt (s:={s with p:=s.p+1,tm:=s.tm+1}) c (by decide);obtain⟨n1,n2⟩:=au q3;unfold mH;rw[ab (by omega),Y];show(if l7 (aW E.T (s.p+1)).text then _ else _)=_;have S:(aW E.T (s.p+1)).text=wd:=S;rw[S,ag aw];show PR.b (jc E.T (fQ f {E with dp:=E.dp+1}) wd {s with p:=s.p+1+1,tm:=s.tm+1}) _=_;rw[n1];show PR.b (bM E.T 1 y) _=_;obtain⟨q4,_,_⟩:=qt n2 (by decide);rw[q4];show eR {y with p:=y.p+1} H _=_;rw[added ks e {y with p:=y.p+1} H _ al am an];obtain⟨p4,t4,g4⟩:=y;dsimp only at hp ht ⊢;rw[hp,ht]
  by_cases C:d.op=3
  .rw [ag C]at w;have F:iI (h7 E.vs g n) d.kids s.g=some ([],s.g):=by rw[Q (by omega)];rfl
   have ar:(⟨3,[],0,0,0,ba [],d.st⟩:Nx)=fH d []:=by have z:=D.ok.ok;obtain⟨op,kids,nn,m,u,N,st⟩:=d;dsimp only at *;subst C;unfold hq at z;simp[lq,lr]at z;unfold fH;simp[z]
   refine comp [122,101,114,111] (iT d.st++[(1,[])]) ⟨3,[],0,0,0,ba [],d.st⟩ ⟨s.p+1+1+(iT d.st).length,s.tm+1,s.g⟩ [] s.g (by rw[w];simp) (by decide) (λM=>?_) F rfl ar (by rw[w];simp;omega) (by rw[W (by omega)]);obtain⟨z1,z2⟩:=YC (s:={s with p:=s.p+1+1,tm:=s.tm+1}) D.st M;refine⟨?_,z2⟩;show PR.b (PR.b (ic E.T {s with p:=s.p+1+1,tm:=s.tm+1}) (λI s=>.ok ((⟨3,[],0,0,0,ba [],I⟩:Nx),0) s)) _=_;rw[z1];rfl
  rw[ab C]at w;have kids:∀(ks:List Int) (j:aI) (l:List Int) (e:List Nx) (K:List TK),(∀k∈ks,0<=k/\k<(i:Int))->iI (h7 E.vs g n) ks j.g=some (l,e)->fE E.T j.p (ks.flatMap (λk=>eA n g k.toNat)++K)->(ks.flatMap λk=>eA n g k.toNat).length<=f->j.tm+ks.foldl (λI k=>I+cW n g k.toNat) 0<=65536->
    ho (fQ f {E with dp:=E.dp+1}) ks.length j=.ok l ⟨j.p+(ks.flatMap λk=>eA n g k.toNat).length,j.tm+ks.foldl (λI k=>I+cW n g k.toNat) 0,e⟩:=by
   intro ks;induction ks with
   |nil=>
    intro j l e K _ h _ _ _;have h:(([]:List Int),j.g)=(l,e):=by simpa[iI]using h
    cases h;rfl
   |cons A ks ih=>
    intro j l e K af h V ae ay;have aJ:=af A me;rw[df]at V ae ⊢;rw[b']at ae;rw[hr]at V;rw[List.foldl_cons,fold_add,Nat.zero_add]at ay ⊢;unfold iI at h;cases hF:h7 E.vs g n A.toNat j.g with
    |none=>rw[hF]at h;cases h
    |some a=>
     obtain⟨ka,O⟩:=a;rw[hF]at h;have h:(iI (h7 E.vs g n) ks O).map (λl=>((ka:Int)::l.1,l.2))=some (l,e):=h;cases hR:iI (h7 E.vs g n) ks O with
     |none=>rw[hR]at h;cases h
     |some b=>
      obtain⟨lb,Gb⟩:=b;rw[hR]at h;have h:((ka:Int)::lb,Gb)=(l,e):=by simpa using h
      cases h;have r1:=NA hv hu n f A.toNat {E with dp:=E.dp+1} j ka O (by omega) (by omega) hF V.app.1 (by omega) (by show E.dp+1+A.toNat<64;omega) (by omega) ai;show PR.b (fQ f {E with dp:=E.dp+1} j) _=_;rw[r1];have r2:=ih ⟨j.p+(eA n g A.toNat).length,j.tm+cW n g A.toNat,O⟩ lb e K (λk M=>af k (cH _ M)) hR V.app.2 (by omega) (by show j.tm+cW n g A.toNat+_<=_;omega);show PR.b (ho (fQ f {E with dp:=E.dp+1}) ks.length ⟨j.p+(eA n g A.toNat).length,j.tm+cW n g A.toNat,O⟩) _=_;rw[r2];show PR.ok _ _=_;rw[b',Nat.add_assoc,Nat.add_assoc]
  have az:TKN.length=2+(hL d).length+(d.kids.flatMap λk=>eA n g k.toNat).length+1:=by rw[w];simp;omega
  cases F:iI (h7 E.vs g n) d.kids s.g with
  |none=>rw[F]at q;cases q
  |some a=>
   obtain⟨ks,e⟩:=a;refine comp (dI d.op) (hL d++((d.kids.flatMap λk=>eA n g k.toNat)++[(1,[])])) (fH d ks) ⟨s.p+1+1+(hL d).length+(d.kids.flatMap λk=>eA n g k.toNat).length,s.tm+1+d.kids.foldl (λI k=>I+cW n g k.toNat) 0,e⟩ ks e (by rw[w];simp) (UL (by omega) ax.2) (λM=>?_) F rfl rfl (by rw[az];show s.p+1+1+_+_+1=_;omega) (by rw[ac];show s.tm+1+_=_;omega);obtain⟨Z,k1⟩:=Uo (s:={s with p:=s.p+1+1,tm:=s.tm+1}) D (by omega) M;have e2:=kids d.kids {s with p:=s.p+1+1+(hL d).length,tm:=s.tm+1} ks e [(1,[])] ao F k1 (by omega) (by show s.tm+1+_<=_;omega);refine⟨?_,k1.app.2⟩;show PR.b (i7 E.T (dI d.op) {s with p:=s.p+1+1,tm:=s.tm+1}) _=_;rw[Z];show PR.b (ho (fQ f {E with dp:=E.dp+1}) d.kids.length {s with p:=s.p+1+1+(hL d).length,tm:=s.tm+1}) _=_;rw[e2];rfl
abbrev uv:ByteArray:=⟨#[48,49,50,51,52,53,54,55,56,57]⟩
def rP(d:Nat):ByteArray:=uv.extract d (d+1)
def Tf:∀n<10,rP n++bj #[]=ba (cQ n):=by decide
def Tg:∀n<100,10<=n->rP (n / 10)++(rP (n%10)++bj #[])=ba (cQ n):=by decide
def Hd:∀n<10,(rP n).size=1:=by decide
section
variable {w:J} {R:aC}
def Hc(k:Nat)(z:0<k)(A:k<100)(n:Int)(s:ByteArray)(B:s.size<=10)(j:nH.L1 n uv (rP (k%10)++s) ((k / 10:Nat):Int) w R):nH.L1 n uv s (k:Int) w R:=by
 have d:eY (k:Int) 10=((k%10:Nat):Int):=rfl;have q:eP (k:Int) 10=((k / 10:Nat):Int):=rfl;have x:k%10<10:=Nat.mod_lt _ (by omega);have y:=Hd _ x;refine nH.i1 _ _ _ _ _ _ (aT (by simp;omega) (aV (by rw[d];exact aP (by omega)) ?_));rw[d];have e:aG .i64 (((k%10:Nat):Int)+1)=((k%10+1:Nat):Int):=bw _ (by omega);have h:uv.extract (a1 ((k%10:Nat):Int)) (a1 ((k%10+1:Nat):Int))=rP (k%10):=rfl;dsimp only[nH.S2,ai];dsimp only[nH.S3,ai];rw[e,h,q,bm _ (by omega)];refine⟨by omega,?_,by omega,by rw[bZ];omega,?_,j⟩
 .show ((k%10+1:Nat):Int)<=((10:Nat):Int);omega
 .rw [y,IntKind.max_i64];omega
end
def rF{w:J}{n:Int}(j:0<=n)(x:n<100):aj U Cl #[.i n] w λr e=>r=ae (.string (ba (cQ n.toNat)))/\ah w e:=by
 obtain⟨m,rfl⟩:=Int.eq_ofNat_of_zero_le j;rw[bZ];have fin:∀s:ByteArray,s=ba (cQ m)->nH.L1 (m:Int) uv s ((0:Nat):Int) w λr e=>r=ae (.string (ba (cQ m)))/\ah w e:=λs k=>
  nH.i1 _ _ _ _ _ _ (aV rfl (aV (aP (by omega)) ⟨by rw[k],Fr.refl _ _⟩))
 refine nH.ok _ w _ (ax (λh=>⟨by rw[show m=0 by omega];rfl,Fr.refl _ _⟩) (λh=>?_));refine Hc m (by omega) (by omega) _ _ (by decide) ?_;rcases Nat.lt_or_ge m 10 with d|d
 .rw [show m / 10=0 by omega,show m%10=m by omega];exact fin _ (Tf _ d)
 .have q:=Hd (m%10) (Nat.mod_lt _ (by omega));refine Hc (m / 10) (by omega) (by omega) _ _ (by rw[ByteArray.size_append,q];decide) ?_;rw[show m / 10 / 10=0 by omega,show m / 10%10=m / 10 by omega];exact fin _ (Tg _ (by omega) d)
def ov{a b:ByteArray}(d:a.size<=1000000)(e:b.size<=1000000):¬((((a.size+b.size:Nat)):Int)>IntKind.i64.max):=by rw[IntKind.max_i64];omega
def mJ(n:Nat):(cQ n).length<=2:=by unfold cQ;split<;>simp
def OV(s:aU):(kU s).length<=20:=by
 have e:=mJ s.x.toNat;have h:=mJ s.n.toNat;have j:(g5 s.k).length<=3:=by
  unfold g5;generalize s.k.toNat=d
  match d with
  |0=>decide
  |1=>decide
  |2=>decide
  |3=>decide
  |d+4=>simp
 unfold kU;split<;>simp<;>omega
def Se{s:aU}(I:bo s=true)(w:J):aj U Ks #[dq s] w λr q=>r=ae (.string (ba (kU s)))/\ah w q:=by
 obtain⟨a,b,c,N,F,f⟩:=wk I;have P:=mJ s.x.toNat;have Q:=mJ s.n.toNat;refine xh.au _ _ _ w _ ((bO (w:=w) [] (by simp)).ay λz C E=>E.nw λh _ e=>⟨a,by omega,?_⟩);have e:O F0 w h [.g z,.c C.heap.size [.string (ba [98,118]),.string (ba [115,116,114]),.string (ba [97,114,114]),.string (ba [97,114,115])] fk] []:=e;have A:∀(k:Int),s.k=k->(g5 k).length<=3->h.cell? ((ad C.heap.size).add (a1 k *1))=some (.string (ba (g5 k)))->dJ (some (ad C.heap.size)) λp=>∃t:ByteArray,h.cell? (p.add (a1 s.k *1))=some (.string t)/\¬((((bj #[40]).size+t.size:Nat):Int)>IntKind.i64.max)/\¬(((((bj #[40])++t).size+(bj #[32]).size:Nat):Int)>IntKind.i64.max)/\xh.aX z s.k s.n s.x (((bj #[40])++t)++(bj #[32])) h λr q=>r=ae (.string (ba (kU s)))/\ah w q:=by
  intro k d M K;subst d;have T:(ba (g5 s.k)).size<=3:=by rw[bC];exact M
  refine⟨_,K,ov (by decide) (by omega),ov (by rw[ByteArray.size_append];show 1+_<=_;omega) (by decide),?_⟩;have D:∀(o:List UInt8) (j:J),o.length<=20->O F0 w j [.g z] []->kU s=o++cQ s.n.toNat++[41]->xh.bb z s.k s.n s.x (ba o) j λr q=>r=ae (.string (ba (kU s)))/\ah w q:=by intro o j S y L;refine y.av (rF (w:=j) c (by omega)) ?_;rintro _ V rfl B;refine⟨_,rfl,ov (by rw[bC];omega) (by rw[bC];omega),ov (by rw[ByteArray.size_append,bC,bC];omega) (by decide),?_,B.fr⟩;rw[L,<-b7,<-b7];rfl
  have G:((bj #[40])++ba (g5 s.k))++(bj #[32])=ba (40::g5 s.k++[32]):=by rw[<-b7];congr 1
  rw[G];have y:=e.take 1;refine aS (λd=>?_) (λd=>?_)
  .refine y.av (rF (w:=h) F (by omega)) ?_;rintro _ j rfl B;refine⟨_,rfl,ov (by rw[bC];simp;omega) (by rw[bC];omega),ov (by rw[ByteArray.size_append,bC,bC];simp;omega) (by decide),?_⟩;have H:(ba (40::g5 s.k++[32])++ba (cQ s.x.toNat))++(bj #[32])=ba (40::g5 s.k++[32]++cQ s.x.toNat++[32]):=by rw[<-b7,<-b7];rfl
   rw[H];refine D _ j (by simp;omega) B ?_;unfold kU;rw[ag d];simp
  .refine D _ h (by simp;omega) y ?_;unfold kU;rw[ab d];simp
 have d:s.k=0\/s.k=1\/s.k=2\/s.k=3:=by omega
 rcases d with d|d|d|d
 .exact A 0 d (by decide) (e.ld 1 0)
 .exact A 1 d (by decide) (e.ld 1 1)
 .exact A 2 d (by decide) (e.ld 1 2)
 .exact A 3 d (by decide) (e.ld 1 3)
def Mi{g:List Nx}(q:wA g):∀(f i:Nat),i<f->∀e,i<e->ee f g i=ee e g i
 |0,i,j,_,_=>absurd j (by omega)
 |f+1,i,j,0,k=>absurd k (by omega)
 |f+1,i,j,e+1,k=>by
  unfold ee;cases x:g[i]? with
  |none=>rfl
  |some h=>
   dsimp only;have w:h.kids.flatMap (λd=>32::ee f g d.toNat)=h.kids.flatMap (λd=>32::ee e g d.toNat):=by rw[List.flatMap_def,List.flatMap_def];congr 1;refine List.map_congr_left λd y=>?_;obtain⟨z,A⟩:=q i h x d y;rw[Mi q f d.toNat (by omega) e (by omega)]
   rw[w]
structure Fy(g:List Nx):Prop where
 v:Vg g
 u:∀d∈g,0<=d.u/\d.u<18446744073709551616
 t:∀d∈g,d.tx.size<=1000000
 l:∀i<g.length,(ee (i+1) g i).length<=65536
def Ra(u i:Nat)(x:u<18446744073709551616)(hi:i<64):aG .i64 (W.pN .u64 (Int.fdiv (u:Int) (2^(min (a1 (aG .u64 (i:Int))) (IntKind.bits .u64)))) 1)=if u.testBit i then 1 else 0:=by
 have e:aG .u64 (i:Int)=(i:Int):=IntWalk.u64_in _ (by omega);have h:min (a1 (i:Int)) (IntKind.bits .u64)=i:=by rw[bZ];show min i 64=i;omega
 rw[e,h];have j:Int.fdiv (u:Int) (2^i)=((u / 2^i:Nat):Int):=by
  rw[Int.fdiv_eq_ediv_of_nonneg _ (by exact Int.le_of_lt (Int.pow_pos (by omega)))];have:((2:Int)^i)=((2^i:Nat):Int):=by rw[Int.natCast_pow];rfl
  rw[this];rfl
 rw[j];have w:u / 2^i<18446744073709551616:=Nat.lt_of_le_of_lt (Nat.div_le_self _ _) x;have k:W.pN .u64 ((u / 2^i:Nat):Int) 1=((u / 2^i%2:Nat):Int):=by have:=W.Rc (u / 2^i) 1 w (by decide);rw[Nat.and_one_is_mod]at this;exact this
 rw[k];have q:u.testBit i=ao (u / 2^i%2=1):=by rw[Nat.testBit_eq_decide_div_mod_eq]
 rw[q];have d:u / 2^i%2=0\/u / 2^i%2=1:=by omega
 rcases d with d|d<;>rw[d]<;>rfl
def Rj(u n k:Nat)(d:k<n):(eT u n).drop (n - 1 - k)=(if u.testBit k then 49 else 48)::(eT u n).drop (n - k):=by have e:=oG u n;rw[dk (by omega),show n - 1 - k+1=n - k by omega];congr 1;unfold eT;simp only[List.getElem_map,List.getElem_reverse,List.length_range,List.getElem_range];rw[show n - 1 - (n - 1 - k)=k by omega]
section
variable {w:J} {s:Sl} {l:List Nd}
def Gf{b:Nat}{x0 x2 x3 x4 x6 x7 x8:Int}{x1:Sl}{x5:ByteArray}{L D:List En}{u n:Nat}(F:x4=(u:Int))(q:u<18446744073709551616)(E:n<=64){R:aC}(j:∀e,O F0 w e L D->R (ae (.string (ba (35::98::eT u n)))) e)(B:En.g b∈L):∀(k:Nat) (d:J),k<=n->O F0 w d L D->
  h4.a0 b x0 x1 x2 x3 x4 x5 x6 x7 x8 (ba (35::98::(eT u n).take (n - k))) ((k:Int) - 1) d R
 |0,d,_,h=>by refine h4.bJ _ _ _ _ _ _ _ _ _ _ _ _ _ _ (aV (aP (by omega)) ?_);rw[dM (by rw[oG];omega)];exact j d h
 |k+1,d,H,h=>by
  have I:=oG u n;have K:((eT u n).take (n - (k+1))).length<=64:=by rw[fx];omega
  have y:(((k+1:Nat):Int) - 1)=(k:Int):=by omega
  rw[y];refine h4.bJ _ _ _ _ _ _ _ _ _ _ _ _ _ _ (aT (aM (by omega)) ⟨by rw[IntWalk.u64_in _ (by omega)];omega,?_⟩);subst F;rw[Ra u k q (by omega)];have C:aj U Cl #[.i (if u.testBit k then 1 else 0)] d λr e=>r=ae (.string (ba [if u.testBit k then 49 else 48]))/\ah d e:=by have:=rF (w:=d) (n:=if u.testBit k then 1 else 0) (by split<;>decide) (by split<;>decide);revert this;cases u.testBit k<;>exact id
  refine h.av C ?_;rintro _ G rfl x;refine⟨_,rfl,ov (by rw[bC];simp;omega) (by rw[bC];simp),?_⟩;rw[bm _ (by omega),b7];have z:35::98::(eT u n).take (n - (k+1))++[if u.testBit k then 49 else 48]=35::98::(eT u n).take (n - k):=by
   have A:(eT u n)[n - (k+1)]? =some (if u.testBit k then 49 else 48):=by have:=Rj u n k (by omega);rw[<-List.head?_drop,show n - (k+1)=n - 1 - k by omega,this];rfl
   show 35::98::((eT u n).take (n - (k+1))++[_])=_;rw[show n - k=n - (k+1)+1 by omega,g3,A];rfl
  rw[z];exact Gf (R:=R) rfl q E j B k G (by omega) x
end
def P7(t:ByteArray)(r:List Nx):∀g:List Nx,g8 (g++r) t=(g8 g t).orElse λ_=>g8 r t
 |[]=>by simp[g8]
 |d::g=>by rw[sW,g8,g8,P7 t r g];split<;>simp
def YL{g r:List Nx}{n:Nx}(e:(bF g n).2=0)(L:n.op=0->∀h∈r,h.op=0->h.tx=n.tx->h.st=n.st):bF (g++r) n=bF g n:=by
 have x:=ze e;have d:∀q,bx (g++r) n q=bx g n q:=λq=>by
  unfold bx;cases G:n.kids[q]? with
  |none=>rfl
  |some j=>
   have:=x.ki j (aB G);dsimp only;rw[List.getElem?_append_left (by omega)]
 have C:n.kids.all (eu (g++r))=n.kids.all (eu g):=by
  have B:n.kids.all (eu g)=true:=dK.2 λj d=>by have:=x.ki j d;unfold eu;simp[this]
  rw[B];exact dK.2 λj d=>by have:=x.ki j d;unfold eu;simp;omega
 have H:bQ (g++r) n=bQ g n:=by
  by_cases w:n.op=0
  .have k:lL g n=false:=by
    cases K:lL g n with
    |false=>rfl
    |true=>
     exfalso;unfold bF bQ at e;rw[ag (show n.op<=3 by omega),ab (show ¬n.op=2 by omega)]at e;rw[ag (show n.op=0/\lL g n=true from⟨w,K⟩)]at e;repeat' split at e
     all_goals cases e
   have E:lL (g++r) n=false:=by
    unfold lL at k ⊢;rw[P7];cases F:g8 g n.tx with
    |some s=>rw[F]at k;exact k
    |none=>
     cases I:g8 r n.tx with
     |none=>rfl
     |some s=>
      obtain⟨h,D,y,A,z⟩:=EY I;have:=L w h D y A;dsimp only[Option.orElse];rw[<-z,this];simp
   unfold bQ;rw[k,E]
  .unfold bQ;simp only[w,false_and]
 unfold bF;rw[C,H,d,d,d]
def It{g:List Nx}(h:Vg g){i:Nat}{d:Nx}(hd:g[i]? =some d):e5 d g 0=some i:=by
 cases e:e5 d g 0 with
 |none=>exact absurd (aB hd) (xw e)
 |some j=>
  have:=(xy e).2;rw[Nat.sub_zero]at this;rw[(List.getElem?_inj (cr.1 hd).1 (P' h)).1 (hd.trans this.symm)]
def OW{g:List Nx}(e:Vg g){i:Nat}{d:Nx}(hd:g[i]? =some d):bF g d=(d.st,0):=by have h:=e.ok i d hd;have:=YL (g:=g.take i) (r:=g.drop i) (n:=d) (by rw[h]) λw j x k q=>e.vars j (List.mem_of_mem_drop x) k d (aB hd) w q;rw[List.take_append_drop,h]at this;exact this
def YK(g:List Nx){d:Nx}(q:1<=d.op):bF g (fH d d.kids)=bF g d:=by
 obtain⟨op,kids,n,m,u,j,st⟩:=d;dsimp only at q;unfold fH;dsimp only;by_cases h:op=1\/op=3
 .rw [ag h]
 .rw [ab h];by_cases e:op<=3
  .have k:bQ g ⟨op,kids,n,m,u,j,bg⟩=bQ g ⟨op,kids,n,m,u,j,st⟩:=by unfold bQ;rw[ag (show op=2 by omega),ag (show op=2 by omega)]
   unfold bF;rw[ag e,ag e,k];rfl
  .unfold bF;rw[ab e,ab e];rfl
def QS{g:List Nx}(e:Vg g){i:Nat}{d:Nx}(hd:g[i]? =some d)(h:1<=d.op):b6 g (fH d d.kids)=(g,(i:Int),0):=by unfold b6;rw[YK g h,OW e hd,ab (λe=>e rfl)];have j:dD (fH d d.kids) d.st=d:=rfl;dsimp only;rw[j,It e hd]
def Je{α:Type}{t:List UInt8}{v:α}:∀{l:List (List UInt8×α)},(t,v)∈l->∃u,lk l t=some u
 |(h,u)::l,d=>by
  unfold lk;split
  .exact ⟨_,rfl⟩
  .rename_i e;rcases aE.1 d with d|d
   .cases d;exact absurd rfl e
   .exact Je d
def VH{g:List Nx}(B:Vg g){i:Nat}{d:Nx}(hd:g[i]? =some d)(h:d.op=0):lk (eO g 0) (bl d.tx)=some i:=by
 have C:=(cr.1 hd).1;have E:(bl d.tx,i)∈eO g 0:=by rw[tH];refine cz.2 ⟨i,List.mem_filter.2 ⟨List.mem_range.2 C,by unfold fR;rw[hd];exact aM h⟩,?_⟩;unfold px;rw[List.getD_eq_getElem?_getD,hd];rfl
 obtain⟨H,j⟩:=Je E;have k:=jb j;rw[tH]at k;obtain⟨G,D,e⟩:=cz.1 k;obtain⟨I,F⟩:=List.mem_iff_getElem?.1 D;obtain⟨q,y,z,A⟩:=E0 F;rw[A]at e;have w:bl q.tx=bl d.tx:=congrArg Prod.fst e;have x:G=H:=congrArg Prod.snd e;have:=Qa B y hd z h (by have:=congrArg ba w;rwa[jx,jx]at this);rw[j,<-x,this]
def IB{g:List Nx}(j:Vg g):∀(n i:Nat),i<n->i<g.length->h7 (eO g 0) g n i g=some (i,g)
 |0,i,y,_=>absurd y (by omega)
 |n+1,i,y,q=>by
  have h:g[i]? =some (g[i]'q):=a5 q;generalize g[i]'q=d at h;have D:=(tG j h).op;unfold h7;rw[h];show(if d.op=0 then(lk (eO g 0) (bl d.tx)).map λe=>(e,g)else _)=_;by_cases k:d.op=0
  .rw [ag k,VH j h k];rfl
  .rw [ab k];have w:∀(ks:List Int),(∀e∈ks,0<=e/\e<(i:Int))->iI (h7 (eO g 0) g n) ks g=some (ks,g):=by
    intro ks;induction ks with
    |nil=>intro _;rfl
    |cons e ks B=>
     intro x;have z:=x e me;unfold iI;rw[IB j n e.toNat (by omega) (by omega)];show(iI (h7 (eO g 0) g n) ks g).map (λl=>(((e.toNat:Nat):Int)::l.1,l.2))=_;rw[B λC A=>x C (cH _ A),Int.toNat_of_nonneg z.1];rfl
   rw[w d.kids λe w=>j.kids h e w];show(if(b6 g (fH d d.kids)).2.2=0 then _ else none)=_;rw[QS j h (by omega)];rfl
def W5{g:List Nx}(h:Vg g)(E:∀k∈g,0<=k.u/\k.u<18446744073709551616)(F:g.length<=64){i:Nat}(hi:i<g.length)(C:(ee (i+1) g i).length<=65536)(H:cW (i+1) g i<=65536):∃z,vo g (ee (i+1) g i)=.ok i z/\z.g=g:=by
 obtain⟨j,q,y,w⟩:=Ml h hi C;obtain⟨d,e⟩:∃d,d=j++[(⟨6,[],q⟩:aR)]:=⟨_,rfl⟩;rw[<-e]at y;have A:fE d 0 (eA (i+1) g i):=⟨[(6,[])],by rw[e,List.drop_zero,dX,w];rfl⟩;have x:j.length=(eA (i+1) g i).length:=by rw[<-w,mb]
 have G:d.length=(eA (i+1) g i).length+1:=by rw[e,b',x];rfl
 have D:=NA h E (i+1) (mS (jd d g) ⟨0,0,g⟩) i (jd d g) ⟨0,0,g⟩ i g (Nat.lt_succ_self _) hi (IB h (i+1) i (Nat.lt_succ_self _) hi) A (by show _<=min _ _ *_+(d.length - 0)+1;omega) (by show 0+i<64;omega) (by show 0+_<=_;omega) (λ_ _ _=>rfl)
 unfold vo;rw[y];refine⟨⟨0+(eA (i+1) g i).length,0+cW (i+1) g i,g⟩,?_,rfl⟩;show PR.b (fQ (mS (jd d g) ⟨0,0,g⟩) (jd d g) ⟨0,0,g⟩) _=_;rw[D];show PR.b (bM d 6 ⟨0+(eA (i+1) g i).length,0+cW (i+1) g i,g⟩) _=_;have B:aW d (0+(eA (i+1) g i).length)=⟨6,[],q⟩:=by unfold aW;rw[e,List.getD_eq_getElem?_getD,Nat.zero_add,<-x,List.getElem?_append_right (be _),Nat.sub_self];rfl
 unfold bM;dsimp only;rw[B,ag rfl];rfl
def q0(b:Nat):En:=.c b (lP.map λt=>.string (ba t)) fk
def RH(w:J):aj U Ku #[] w λr e=>(∃b,r=ae (.slice (some (ad b)) 35 35)/\w.heap.size<=b/\(q0 b).P e)/\ah w e:=
 HM.ok w _ ((O.start (M:=F0) [] (by simp)).nw λh _ d=>⟨⟨_,rfl,be _,d.get 0⟩,d.fr⟩)
def qR(b c:Nat):En:=.all [.c b (jO.map λd=>.string (ba d.2)) fk,.c c (jO.map λd=>.i d.1) bn]
def Sd(w:J):aj U Kw #[] w λr h=>(∃b c,r=ae (.tuple #[.slice (some (ad b)) 7 7,.slice (some (ad c)) 7 7])/\(∀j∈(qR b c).fp,w.heap.size<=j)/\(qR b c).P h)/\ah w h:=
 HN.ok w _ ((O.start (M:=F0) [] (by simp)).nw λA y k=>k.nw λB z d=>⟨⟨_,_,rfl,λj q=>by
  have:=a4.1 q;simp[En.ob]at this;omega,λx e=>by
  simp only[aE,aZ,a2]at e;rcases e with rfl|rfl
  .exact d.get 0
  .exact d.get 1⟩,d.fr⟩)
def Dk{w:J}{b i:Nat}{vs:List aa}{T:aD}{v:aa}(d:(En.c b vs T).P w)(hi:vs[i]? =some v):w.cell? ((ad b).add (a1 (i:Int) *1))=some v:=by rw[bZ,Nat.mul_one];exact cellAt (p:=ad b) (i:=i) d rfl (by simpa using hi)
def WR:∀n<31,jO.foldl (pj ((n+4:Nat):Int)) (lP.getD (n+4) [])=dI ((n+4:Nat):Int):=by decide
def ZY:∀t∈lP,t.length<=10:=by decide
def Mx{op:Int}(e:4<=op)(h:op<=34):(dI op).length<=10:=by
 have d:∀n<31,(dI ((n+4:Nat):Int)).length<=10:=by decide
 have:=d (op - 4).toNat (by omega)
 rwa[show(((op - 4).toNat+4:Nat):Int)=op by omega]at this
def Gc{s:Sl}{l:List Nd}(S:Fy (xs l)):∀(n i:Nat),i<n->i<l.length->∀h,GP h s l->aj U Kt #[s.v,.i (i:Int)] h λr z=>r=ae (.string (ba (ee (i+1) (xs l) i)))/\ah h z
 |0,i,W,_,_,_=>absurd W (by omega)
 |n+1,i,W,hi,h,hP=>by
  have hg:l[i]? =some (l[i]'hi):=a5 hi;generalize l[i]'hi=d at hg;have hx:=ou hg;have I:=tG S.v hx;have aA:=aB hx;have hlen:=S.l i (by simp[xs];exact hi);have hu:=S.u _ aA;have aF:=S.t _ aA;have hk:=S.v.xG i d.x hx;have a4:d.x.kids.length<=3:=by have Q:=I.ok.kl;have h2:=(B3 d.x.op).2;omega
  have ac:O F0 h h [] [.gr s l]:=bO _ (by intro aY he;rw[bX.1 he];exact bc.2 hP);have E:ee (i+1) (xs l) i=if d.x.op=0 then bl d.x.tx else if d.x.op=1 then 35::98::eT d.x.u.toNat d.x.st.n.toNat else if d.x.op=2 then kO (bl d.x.tx)else
   if d.x.op=3 then[40,122,101,114,111,32]++kU d.x.st++[41]else
   40::dI d.x.op++g2 d.x++d.x.kids.flatMap (λaa=>32::ee i (xs l) aa.toNat)++[41]:=by
   conv=>lhs;unfold ee
   rw[hx]
  generalize ee (i+1) (xs l) i=full at E hlen;obtain⟨g1,aH,aI⟩:=e4 (bc.1 (ac.getD 0)) (X:=(i:Int)) rfl hg (K:=λp=>∃C,C=p/\Nd.hc h p (a1 (i:Int)) d) λp hp c=>⟨p,rfl,c⟩;refine h4.au s (i:Int) h _ ⟨g1,aH,o3 aI λp ⟨C,hq,c⟩=>⟨d.x.op,d.ks,d.x.n,d.x.m,d.x.u,d.x.tx,d.x.st.k,d.x.st.n,d.x.st.x,c.c0,c.c1,c.c2,c.c3,c.c4,c.c5,c.c6,c.c7,c.c8,ac.ay λb w1 P=>?_⟩⟩;have P:O F0 h w1 [.g b] [.gr s l]:=P;refine ax (λY=>P.af λN F=>?_) (λY=>ax (λQ=>P.af λN F=>?_) (λQ=>ax (λh2=>P.af λN F=>?_) (λh2=>ax (λh3=>P.af λN F=>?_) (λh3=>P.af λN F=>?_))))
  .rw [ag Y]at E;exact⟨by rw[E,jx],F.fr⟩
  .rw [ab Y,ag Q]at E;have a8:=wk I.st;have a9:1<=d.x.st.n:=by have:=I.st;have a3:=(I.nu Q).1;unfold bo at this;simp at this;omega
   have e1:aG .i64 (d.x.st.n - 1)=((d.x.st.n.toNat:Nat):Int) - 1:=by rw[bm _ (by omega)];omega
   rw[e1];have:=Gf (w:=h) (b:=b) (x0:=d.x.op) (x1:=d.ks) (x2:=d.x.n) (x3:=d.x.m) (x4:=d.x.u) (x5:=d.x.tx) (x6:=d.x.st.k) (x7:=d.x.st.n) (x8:=d.x.st.x) (L:=[.g b]) (D:=[.gr s l]) (u:=d.x.u.toNat) (n:=d.x.st.n.toNat) (by omega) (by omega) (by omega) (R:=λr z=>r=ae (.string (ba full))/\ah h z) (λz H'=>⟨by rw[E],H'.fr⟩) (by simp) d.x.st.n.toNat N (be _) F;rw[Nat.sub_self,List.take_zero]at this;exact this
  .rw [ab Y,ab Q,ag h2]at E;refine F.av (Nq d.x.tx aF N) ?_;rintro _ w3 rfl V;exact⟨_,rfl,by rw[E],V.fr⟩
  .rw [ab Y,ab Q,ab h2,ag h3]at E;have a7:=OV d.x.st;refine F.av (Se I.st N) ?_;rintro _ w3 rfl V;refine⟨_,rfl,ov (by decide) (by rw[bC];omega),ov (by rw[ByteArray.size_append,bC];show 6+_<=_;omega) (by decide),?_,V.fr⟩;rw[E,<-b7,<-b7];rfl
  rw[ab Y,ab Q,ab h2,ab h3]at E;have aD:=I.op;have a6:=Mx (op:=d.x.op) (by omega) aD.2;have aN:(g2 d.x).length+2<=full.length:=by have:=congrArg List.length E;simp only[b',cT]at this;omega
  refine F.gY (RH N) ?_;rintro _ w3 ⟨T,rfl,bb,aU⟩ _ F3;have V:=F3.rd (q0 T) aU (λaX hx=>by
   have:aX=T:=by simpa[q0,En.ob]using hx
   omega)
  have aW:(lP.map λt=>Value.string (ba t))[d.x.op.toNat]? =some (.string (ba (lP.getD d.x.op.toNat []))):=by
   have:d.x.op.toNat<lP.length:=by show _<35;omega
   rw[qG,List.getD_eq_getElem?_getD,a5 this];rfl
  have bd:(lP.getD d.x.op.toNat []).length<=10:=by
   have:d.x.op.toNat<lP.length:=by show _<35;omega
   rw[List.getD_eq_getElem?_getD,a5 this];exact ZY _ (List.getElem_mem this)
  refine⟨⟨some (ad T),35,35⟩,rfl,aD.1,by show d.x.op<((35:Nat):Int);omega,ba (lP.getD d.x.op.toNat []),?_,ov (by decide) (by rw[bC];omega),?_⟩
  .have:=Dk (w:=w3) (V.getD 1) aW
   rwa[show((d.x.op.toNat:Nat):Int)=d.x.op by omega]at this
  refine(V.gY (Sd w3) ?_:);rintro _ w4 ⟨G,H,rfl,aS,aR⟩ _ F4;have H4:=F4.rd (qR G H) aR aS;have H4:O F0 h w4 [.g b] [.gr s l,q0 T,qR G H]:=H4;refine⟨⟨some (ad G),7,7⟩,⟨some (ad H),7,7⟩,rfl,?_⟩;have kids:∀(m j:Nat) (o:List UInt8) (e:J),j+m=d.x.kids.length->full=o++(d.x.kids.drop j).flatMap (λaa=>32::ee i (xs l) aa.toNat)++[41]->O F0 h e [.g b] [.gr s l]->
    h4.hU s b d.x.op d.ks d.x.n d.x.m d.x.u d.x.tx d.x.st.k d.x.st.n d.x.st.x (ba o) (j:Int) e λr z=>r=ae (.string (ba full))/\ah h z:=by
   intro m;induction m with
   |zero=>
    intro j o e hj B A;have aL:d.ks.n=d.x.kids.length:=bW.len ((bc.1 (A.getD 0)).2 d (aB hg));have ai:=congrArg List.length B;simp only[b']at ai;refine h4.k8 _ _ _ _ _ _ _ _ _ _ _ _ _ _ _ (aV (aP (by omega)) ⟨ov (by rw[bC];omega) (by decide),?_,A.fr⟩);rw[B,de (by omega)];rw[show(bj #[41])=ba [41]from rfl,b7];simp
   |succ m ih=>
    intro j o e hj B A;have aC:=(bc.1 (A.getD 0)).2 d (aB hg);have aL:d.ks.n=d.x.kids.length:=bW.len aC;have ap:d.x.kids[j]? =some (d.x.kids[j]'(by omega)):=a5 (by omega);have az:d.x.kids.drop j=d.x.kids[j]'(by omega)::d.x.kids.drop (j+1):=dk (by omega);generalize d.x.kids[j]'(by omega)=aa at ap az;obtain⟨k0,k1⟩:=hk aa (aB ap);rw[az,df]at B;have ai:=congrArg List.length B;simp only[b',cT]at ai;obtain⟨kn,rfl⟩:=Int.eq_ofNat_of_zero_le k0;rw[bZ,Mi S.v.xG i kn (by omega) (kn+1) (by omega)]at B ai;refine h4.k8 _ _ _ _ _ _ _ _ _ _ _ _ _ _ _ (aT (aM (by omega)) ⟨ov (by rw[bC];omega) (by decide),by omega,by omega,bW.cell aC ap (by omega) λC hq aJ=>⟨(kn:Int),aJ,?_⟩⟩);refine A.av (Gc S n kn (by omega) (by omega) e (bc.1 (A.getD 0))) ?_;rintro _ q rfl y;refine⟨_,rfl,ov (by rw[ByteArray.size_append,bC];show _+1<=_;omega) (by rw[bC];omega),?_⟩;show h4.hU s b d.x.op d.ks d.x.n d.x.m d.x.u d.x.tx d.x.st.k d.x.st.n d.x.st.x _ (aG .i64 ((j:Int)+1)) q _;rw[bw _ (by omega),show(bj #[32])=ba [32]from rfl,b7,b7];exact ih (j+1) _ q (by omega) (by rw[B];simp) y
  have S4:∀e,O F0 h e [.g b] [.gr s l]->h4.fG s b d.x.op d.ks d.x.n d.x.m d.x.u d.x.tx d.x.st.k d.x.st.n d.x.st.x (ba (40::dI d.x.op++g2 d.x)) e λr z=>r=ae (.string (ba full))/\ah h z:=λe A=>
   kids d.x.kids.length 0 _ e (by omega) (by rw[List.drop_zero];exact E) A
  have fin:∀e,O F0 h e [.g b] [.gr s l]->h4.lX s b d.x.op d.ks d.x.n d.x.m d.x.u d.x.tx d.x.st.k d.x.st.n d.x.st.x (ba (40::dI d.x.op)) e (λr z=>r=ae (.string (ba full))/\ah h z)\/True:=λ_ _=>.inr trivial;have ak:(bj #[32])=ba [32]:=rfl;have hz:(ba (40::dI d.x.op)).size<=11:=by rw[bC];simp;omega
  have S7:(d.x.op=22\/d.x.op=23\/d.x.op=28)->∀e,O F0 h e [.g b] [.gr s l]->h4.lX s b d.x.op d.ks d.x.n d.x.m d.x.u d.x.tx d.x.st.k d.x.st.n d.x.st.x (ba (40::dI d.x.op)) e λr z=>r=ae (.string (ba full))/\ah h z:=λB e A=>by
   obtain⟨q1,q2⟩:=I.n2 B;have a2:=mJ d.x.n.toNat;refine⟨ov (by omega) (by decide),A.av (rF (w:=e) q1 (by omega)) ?_⟩;rintro _ q rfl y;refine⟨_,rfl,ov (by rw[ByteArray.size_append];show _+1<=_;omega) (by rw[bC];omega),?_⟩;have M:g2 d.x=32::cQ d.x.n.toNat:=by unfold g2;rw[ab (by omega),ag B]
   have:=S4 q y;rw[M]at this;rw[ak,b7,b7];simpa using this
  have S8:¬(d.x.op=21\/d.x.op=22\/d.x.op=23\/d.x.op=28)->∀e,O F0 h e [.g b] [.gr s l]->h4.pI s b d.x.op d.ks d.x.n d.x.m d.x.u d.x.tx d.x.st.k d.x.st.n d.x.st.x (ba (40::dI d.x.op)) d.x.op e λr z=>r=ae (.string (ba full))/\ah h z:=λB e A=>by
   refine ax (λao=>⟨ov (by omega) (by decide),A.av (Nq d.x.tx aF e) ?_⟩) (λao=>?_)
   .rintro _ q rfl y;have M:g2 d.x=32::kO (bl d.x.tx):=by unfold g2;rw[ab (by omega),ab (by omega),ag ao]
    rw[M,cT]at aN;refine⟨_,rfl,ov (by rw[ByteArray.size_append];show _+1<=_;omega) (by rw[bC];omega),?_⟩;have:=S4 q y;rw[M]at this;rw[ak,b7,b7];simpa using this
   .have M:g2 d.x=[]:=by unfold g2;rw[ab (by omega),ab (by omega),ab ao]
    have:=S4 e A;rw[M,cP]at this;exact this
  have loop:∀(m j:Nat) (o:List UInt8) (e:J),j+m=7->o=(jO.take j).foldl (pj d.x.op) (lP.getD d.x.op.toNat [])->O F0 h e [.g b] [.gr s l,q0 T,qR G H]->
    h4.ku s b d.x.op d.ks d.x.n d.x.m d.x.u d.x.tx d.x.st.k d.x.st.n d.x.st.x (ba (40::o)) ⟨some (ad G),7,7⟩ ⟨some (ad H),7,7⟩ (j:Int) e λr z=>r=ae (.string (ba full))/\ah h z:=by
   intro m;induction m with
   |zero=>
    intro j o e hj B A;have h7:j=7:=by omega
    subst h7;have B:o=dI d.x.op:=by rw[B];have:=WR (d.x.op - 4).toNat (by omega);rw[show((d.x.op - 4).toNat+4)=d.x.op.toNat by omega,show((d.x.op.toNat:Nat):Int)=d.x.op by omega]at this;exact this
    subst B;have y:=A.forget [.gr s l] (by simp);refine h4.oB _ _ _ _ _ _ _ _ _ _ _ _ _ _ _ _ _ (aV (aP (by show ¬((7:Nat):Int)<((7:Nat):Int);omega)) (ax (λal=>⟨ov (by omega) (by decide),y.af λq H7=>?_⟩) (λal=>?_)))
    .obtain ⟨q1,q2,q3⟩:=I.n1 al;have aZ:=mJ d.x.n.toNat;have a0:=mJ d.x.m.toNat;refine H7.av (rF (w:=q) (by omega) (by omega)) ?_;rintro _ w7 rfl H8;refine⟨_,rfl,ov (by rw[ByteArray.size_append];show _+1<=_;omega) (by rw[bC];omega),ov (by rw[ByteArray.size_append,ByteArray.size_append,bC (cQ _)];show _+1+_<=_;omega) (by decide),H8.av (rF (w:=w7) q1 (by omega)) ?_⟩;rintro _ w8 rfl H9;refine⟨_,rfl,ov (by rw[ByteArray.size_append,ByteArray.size_append,ByteArray.size_append,bC (cQ _)];show _+1+_+1<=_;omega) (by rw[bC];omega),?_⟩;have M:g2 d.x=32::cQ d.x.n.toNat++32::cQ d.x.m.toNat:=by unfold g2;rw[ag al]
     have:=S4 w8 H9;rw[M]at this;rw[ak,b7,b7,b7,b7];simpa using this
    .refine ax (λam=>ax (λ_=>S7 (.inl am) e y) (λW=>absurd am W)) (λam=>ax (λan=>ax (λ_=>S7 (.inr (.inl an)) e y) (λW=>absurd an W)) (λan=>ax (λar=>S7 (.inr (.inr ar)) e y) (λar=>S8 (by omega) e y)))
   |succ m ih=>
    intro j o e hj B A;have Z:j<jO.length:=by show j<7;omega
    have hq:jO[j]? =some (jO[j]'Z):=a5 Z;have aK:(jO[j]'Z).2.length<=10:=by
     have:∀C∈jO,C.2.length<=10:=by decide
     exact this _ (List.getElem_mem Z)
    have aE:jO.take (j+1)=jO.take j++[jO[j]'Z]:=by rw[g3,hq];rfl
    generalize jO[j]'Z=C at hq aK aE;have aO:(jO.take (j+1)).foldl (pj d.x.op) (lP.getD d.x.op.toNat [])=pj d.x.op o C:=by rw[aE,List.foldl_append,<-B];rfl
    have aq:∀{q:J},O F0 h q [.g b] [.gr s l,q0 T,qR G H]->q.cell? ((ad H).add (a1 (j:Int) *1))=some (.i C.1)/\q.cell? ((ad G).add (a1 (j:Int) *1))=some (.string (ba C.2)):=λac=>by have hp:=ac.getD 2;exact⟨Dk (hp _ (aB (i:=1) rfl)) (by rw[qG,hq];rfl),Dk (hp _ (aB (i:=0) rfl)) (by rw[qG,hq];rfl)⟩
    have aw:∀(o':List UInt8) (q:J),o'=pj d.x.op o C->O F0 h q [.g b] [.gr s l,q0 T,qR G H]->h4.cv s b d.x.op d.ks d.x.n d.x.m d.x.u d.x.tx d.x.st.k d.x.st.n d.x.st.x (ba (40::o')) ⟨some (ad G),7,7⟩ ⟨some (ad H),7,7⟩ (j:Int) q λr z=>r=ae (.string (ba full))/\ah h z:=λo' q aQ y=>by show h4.ku s b d.x.op d.ks d.x.n d.x.m d.x.u d.x.tx d.x.st.k d.x.st.n d.x.st.x _ _ _ (aG .i64 ((j:Int)+1)) q _;rw[bw _ (by omega)];exact ih (j+1) o' q (by omega) (by rw[aQ,aO]) y
    refine h4.oB _ _ _ _ _ _ _ _ _ _ _ _ _ _ _ _ _ (aT (aM (by show(j:Int)<((7:Nat):Int);omega)) ⟨by omega,by show(j:Int)<((7:Nat):Int);omega,A.af λq y=>⟨C.1,(aq y).1,ax (λhe=>⟨by omega,by show(j:Int)<((7:Nat):Int);omega,ba C.2,(aq y).2,ov (by decide) (by rw[bC];omega),?_⟩) (λhe=>?_)⟩⟩)
    .have:=aw C.2 q (by unfold pj;rw[ag he]) y;rw[show(bj #[40])=ba [40]from rfl,b7];exact this
    .exact aw o q (by unfold pj;rw[ab he]) y
  have:=loop 7 0 _ w4 (by omega) rfl H4;rw[show(bj #[40])=ba [40]from rfl,b7];exact this
def UA{T:List aR}(q:iy T){s s':aI}{n:Int}(h:dm T s=.ok n s'):0<=n/\n<10000000000000:=by
 rcases Nat.lt_or_ge s.p T.length with d|d
 .exact int_lt q d h
 .exfalso;obtain⟨t,x,k,w⟩:=cL h;obtain⟨e,j,_⟩:=oZ k;unfold aW at e;rw[List.getD_eq_getElem?_getD,List.getElem?_eq_none d]at e;rw[e]at j;cases j
def IN{tm:aI->PR Nat}:∀(n:Nat) (s:aI) (l:List Int) (s':aI),ho tm n s=.ok l s'->l.length=n
 |0,_,_,_,d=>by cases d;rfl
 |n+1,s,l,s',d=>by obtain⟨x,q,w,e⟩:=cL d;obtain⟨k,y,h,j⟩:=cL e;cases j;rw[cT,IN n q k _ h]
def WU:∀d∈fM,d.2.2<=3:=by decide
def Wt{T:List aR}(P:iy T)(O:∀t∈T,t.kind=5->(gP t.text).2=0->pE (ba (gP t.text).1))(tm:aI->PR Nat)(wd:List UInt8)(s:aI)(n:Nx)(s':aI)(e:jc T tm wd s=.ok n s'):jW n:=by
 obtain⟨k,S,d,K⟩:=cL e;obtain⟨E,V,L,N⟩:=cL K;cases N;have Q:=IN _ _ _ _ L;have j:dx 0:=⟨by omega,by omega⟩;have i:∀{a b:aI} {x:Int},dm T a=.ok x b->dx x/\0<=x:=λe=>by have:=UA P e;exact⟨⟨by omega,by omega⟩,this.1⟩
 have mk:k.2<=3->dx k.1.n->dx k.1.m->0<=k.1.u->(k.1.op=33->pE k.1.tx)->jW {k.1 with kids:=E}:=λa b c G H=>⟨by show E.length<=_;omega,b,c,G,H⟩;unfold i7 at d;split at d
 .obtain ⟨u,q,h,d⟩:=cL d;obtain⟨m,F,z,d⟩:=cL d;cases d;exact mk (dc _) j j (i h).2 (λe=>by cases e)
 split at d
 .obtain ⟨u,q,h,d⟩:=cL d;cases d;exact mk (dc _) j j (Int.le_refl _) (λe=>by cases e)
 split at d
 .obtain ⟨u,q,h,d⟩:=cL d;obtain⟨m,F,z,d⟩:=cL d;cases d;exact mk (show 1<=3 by decide) (i h).1 (i z).1 (Int.le_refl _) (λe=>by cases e)
 split at d
 .obtain ⟨u,q,h,d⟩:=cL d;cases d;exact mk (show 1<=3 by decide) (i h).1 j (Int.le_refl _) (λe=>by cases e)
 split at d
 .obtain ⟨u,q,h,d⟩:=cL d;cases d;exact mk (show 1<=3 by decide) (i h).1 j (Int.le_refl _) (λe=>by cases e)
 split at d
 .obtain ⟨u,q,h,d⟩:=cL d;cases d;exact mk (show 1<=3 by decide) (i h).1 j (Int.le_refl _) (λe=>by cases e)
 split at d
 .obtain ⟨r,q,h,d⟩:=cL d;cases d;obtain⟨t,F,z,B⟩:=cL h;obtain⟨A,D,_⟩:=oZ z;split at B
  .rename_i I;cases B;refine mk (show 1<=3 by decide) j j (Int.le_refl _) (λ_=>O t ?_ D I);rcases Nat.lt_or_ge s.p T.length with C|C
   .rw [A];exact(pq C).1
   .unfold aW at A;rw[List.getD_eq_getElem?_getD,List.getElem?_eq_none C]at A;rw[A]at D;cases D
  .cases B
 .cases d;refine mk ?_ j j (Int.le_refl _) (λe=>?_)
  .show ((lk fM wd).getD (0,0)).2<=3;cases w:lk fM wd with
   |none=>exact dc _
   |some y=>exact WU (wd,y) (jb w)
  .have e:((lk fM wd).getD (0,0)).1=33:=e;have M:∀y∈fM,y.2.1≠33:=by decide
   cases w:lk fM wd with
   |none=>rw[w]at e;cases e
   |some y=>rw[w]at e;exact absurd e (M (wd,y) (jb w))
def Fp(t:List UInt8):Prop:=rm (ba t)/\((gP t).2=0->iO t=true)
def M6{T:List aR}(y:iy T)(h:∀t∈T,t.kind=5->Fp t.text):nz 12 T:=
 ⟨OS,by decide,λt e d j x=>WK (h t e d).1 j (by rw[kC];exact x),Wt y λt e d k=>by obtain⟨q,w⟩:=h t e d;rw[N7 (w k)];exact(Dm q).2.1⟩
def VC:(nj.all λt=>(gP (bl t)).2 !=0)=true:=by kernel_rfl
def VB:(nj.all λt=>By.contains (bl t))=true:=by kernel_rfl
def VY{d:Nx}(e:MdN d)(w:d.op=33->kD d.tx=true)(x:d.op=2\/d.op=33):Fp (bl d.tx):=by
 rcases x with q|h
 .have j:=e.li q;refine⟨.inl ?_,λk=>?_⟩
  .have:=dK.1 VB _ j;rw[kC];simpa using this
  .have:=dK.1 VC _ j;rw[k]at this;cases this
 .refine ⟨.inr ?_,λ_=>w h⟩;rw[jx];exact e.re h
def PH{g:List Nx}:∀(n i:Nat) (t:List UInt8),(5,t)∈eA n g i->∃e∈g,(e.op=2\/e.op=33)/\t=bl e.tx
 |0,_,_,d=>by cases d
 |n+1,i,t,d=>by
  unfold eA at d;split at d
  .cases d
  .rename_i e q;have h:=aB q;split at d
   .simp at d
   split at d
   .simp at d
   split at d
   .rename_i j;refine⟨e,h,.inl j,by simpa using d⟩
   split at d
   .exfalso;unfold iT at d;split at d<;>simp at d
   .rcases aL.1 d with d|d
    .rcases aL.1 d with d|d
     .rcases aL.1 d with d|d
      .simp at d
      .unfold hL at d;split at d
       .simp at d
       split at d
       .simp at d
       split at d
       .rename_i k;exact⟨e,h,.inr k,by simpa using d⟩
       .cases d
     .obtain ⟨w,x,d⟩:=bB.1 d;exact PH n w.toNat t d
    .simp at d
def Np(b:List UInt8):(kO b).length<=4 *b.length+2:=by have:=(HR b).2;show([34]++b.flatMap gw++[34]).length<=_;rw[b',b'];simp only[List.length_singleton];omega
def Mj{g:List Nx}(x:Vg g)(A:∀d∈g,MdN d):∀(n i:Nat),i<n->i<g.length->(ee n g i).length<=150 *cW n g i
 |0,i,j,_=>absurd j (by omega)
 |n+1,i,j,k=>by
  have h:g[i]? =some (g[i]'k):=a5 k;generalize g[i]'k=d at h;have w:=A d (aB h);have B:=tG x h;have F:=B.op;have D:cW (n+1) g i=d.kids.foldl (λy e=>y+cW n g e.toNat) 1:=by
   conv=>lhs;unfold cW
   rw[h]
  rw[fold_add]at D;have C:d.op≠33->(bl d.tx).length<=16:=λj=>by rw[c9];exact w.tx j
  unfold ee;rw[h,D];dsimp only;have Z:=wk B.st;split
  .have:=C (by omega);omega
  split
  .have:=oG d.u.toNat d.st.n.toNat;simp only[cT];omega
  split
  .have:=C (by omega);have:=Np (bl d.tx);omega
  split
  .have:=OV d.st;simp only[b',cT,List.length_nil];omega
  .rename_i K L M N;have Y:=Mx (op:=d.op) (by omega) F.2;have W:(g2 d).length<=123:=by
    unfold g2;split
    .have:=mJ d.n.toNat;have:=mJ d.m.toNat;simp only[b',cT];omega
    split
    .have:=mJ d.n.toNat;simp only[cT];omega
    split
    .rename_i E;have S:=Mo (.inr (w.re E));have:=Np (bl d.tx);rw[c9]at this;simp only[cT];omega
    .simp
   have q:∀(ks:List Int),(∀e∈ks,0<=e/\e<(i:Int))->(ks.flatMap λe=>32::ee n g e.toNat).length<=ks.length+150 *ks.foldl (λy e=>y+cW n g e.toNat) 0:=by
    intro ks;induction ks with
    |nil=>intro _;simp
    |cons e ks H=>
     intro z;have V:=z e me;have O:=Mj x A n e.toNat (by omega) (by omega);have P:=H λI G=>z I (cH _ G);rw[df,b',List.foldl_cons,fold_add,cT,cT];omega
   have Q:=q d.kids λe q=>x.kids h e q;have T:=w.kl;simp only[b',cT,List.length_nil];omega
namespace Hl
noncomputable abbrev t0:=aA U Tryz.f9 [] [1,4]
noncomputable abbrev aX:=ai t0 [0,1,1,1,3] []
noncomputable abbrev t1:=ak aX
def au:=aF t1 JH []
end Hl
namespace ux
noncomputable abbrev t0:=aA U Tryz.f3 [(6,ls [0,1,2,3,4,5,6,7,8,9,10])] [7]
noncomputable def a0:=bu t0 [0,1,1,1,2] [(5,.v [.s]),(6,.v [.I])]
noncomputable abbrev t1:=bt a0
noncomputable abbrev bb:=ai t1 [0,1,3,2,1,2,1,1,2] []
noncomputable abbrev t2:=ak bb
def bJ:=bH t2 a0
def au:=aF t2 Ck [.s,.I]
end ux
def Gz{w:J}{a b:Sl}{l:List Int}(z:bW w a l)(A:bW w b l)(K:l.length<=1000):aj U Cm #[a.v,b.v] w λr q=>r=ae (.bool true)/\ah w q:=by
 have N:=bW.len z;have nb:=bW.len A;have C:O F0 w w [] [.rd a (l.map ct),.rd b (l.map ct)]:=bO _ (by
  intro I B;simp only[aE,aZ,a2]at B;rcases B with rfl|rfl
  .exact z
  .exact A)
 have loop:∀(m i:Nat) (d:J),i+m=l.length->O F0 w d [] [.rd a (l.map ct),.rd b (l.map ct)]->mN.L0 a b (i:Int) d λr q=>r=ae (.bool true)/\ah w q:=by
  intro m;induction m with
  |zero=>intro i d G e;exact mN.cU _ _ _ _ _ (aV (aP (by omega)) ⟨rfl,e.fr⟩)
  |succ m H=>
   intro i d G e;have k:l[i]? =some (l[i]'(by omega)):=a5 (by omega);generalize l[i]'(by omega)=x at k;refine mN.cU _ _ _ _ _ (aT (aM (by omega)) (e.dr λy h=>?_));have E:bW y a l:=h.getD 0;have F:bW y b l:=h.getD 1;refine⟨by omega,by omega,E.cell k (by omega) λp L c=>⟨x,c,by omega,by omega,F.cell k (by omega) λP M D=>⟨x,D,bY (λj=>absurd rfl j) (λ_=>?_)⟩⟩⟩;rw[bw _ (by omega)];exact H (i+1) y (by omega) h
 exact mN.ok _ _ w _ (bY (λj=>absurd (by omega) j) (λ_=>loop l.length 0 w (by omega) C))
def xO:List UInt8:=[40,100,101,99,108,97,114,101,32,97,32,40,98,118,32,56,41,41,40,100,101,102,105,110,101,32,40,109,32,40,120,32,40,98,118,32,56,41,41,41,32,40,97,100,100,32,120,32,120,41,41,40,97,115,115,101,114,116,32,112,32,40,101,113,32,40,109,32,97,41,32,35,120,48,48,41,41]
def ss:List UInt8:=[40,97,115,115,101,114,116,32,112,32,113,41]
def Cc:List Nx:=[⟨0,[],0,0,0,ba [97],a' 8⟩,⟨9,[0,0],0,0,0,ba [],a' 8⟩,⟨1,[],0,0,0,ba [],a' 8⟩,⟨18,[1,2],0,0,0,ba [],a' 1⟩]
def u3:List hf:=[⟨0,[97],a' 8,0,0⟩,⟨1,[112],bg,3,0⟩]
def VD:(match o4 xO with
  |.ok d=>ao (d.s.g=Cc)&&ao (d.cs=u3)
  |.er _ _=>false)=true:=by kernel_rfl
def VF:(match o4 ss with
  |.ok _=>false
  |.er d p=>ao (d=6)&&ao (p=10))=true:=by kernel_rfl
def yo(l:List UInt8):Bool:=match tokens l with
 |.ok d=>d.all λt=>ao (t.kind≠5)
 |.bad _ _=>true
def VE:yo xO=true:=by kernel_rfl
def VG:yo ss=true:=by kernel_rfl
def M5{l:List UInt8}(e:yo l=true):∀d,tokens l=.ok d->nz 12 d:=λd h=>by unfold yo at e;rw[h]at e;exact M6 (zr h) λt k j=>absurd j (eZ (dK.1 e t k))
structure Aj(c:Nat)(d:Nx):Prop where
 kl:d.kids.length<=c
 n:dx d.n
 m:dx d.m
 u:0<=d.u
 tx:d.op=33->rm d.tx
def MdN.sp{d:Nx}(e:MdN d):Aj 3 d:=⟨e.kl,⟨by have:=e.n;omega,by have:=e.n;omega⟩,⟨by have:=e.m;omega,by have:=e.m;omega⟩,e.u.1,λh=>.inr (e.re h)⟩
def Aj.tok{c:Nat}{d:Nx}(e:Aj c d)(j:c<=100):jW d:=⟨by have:=e.kl;omega,e.n,e.m,e.u,λh=>(Dm (e.tx h)).2.1⟩
def uO(g:List Nx)(n:Nx):Int×Bool:=if(bF g n).2≠0 then(0,false)else match e5 (dD n (bF g n).1) g 0 with
 |some i=>((i:Int),true)
 |none=>(0,false)
def Zc{w:J}{s:Sl}{l:List Nd}{d:Nd}(z:GP w s l)(hd:d.P w)(Q:cO.P w)(S:jW d.x)(E:l.length<=1000000000)(T:∀h∈xs l,bo h.st=true)(N:∀h∈l,h.x.kids.length<=1000000000):
  aj U Lp #[.agg #[s.v],d.v] w λr V=>r=ae (.tuple #[.i (uO (xs l) d.x).1,.bool (uO (xs l) d.x).2])/\ah w V:=by
 have G:O F0 w w [] [.gr s l,cg d,cO]:=bO _ (by
  intro h q;simp only[aE,aZ,a2]at q;rcases q with rfl|rfl|rfl
  .exact bc.2 z
  .exact hd
  .exact Q)
 refine Pt.au _ _ _ _ _ _ _ _ _ _ w _ (G.ay λD F H=>H.nw λW _ e=>?_);have e:O F0 w W [.g D,.c F.heap.size d.c bI] [.gr s l,cg d,cO]:=e;refine⟨d.x.op,d.ks,d.x.n,d.x.m,d.x.u,d.x.tx,d.x.st.k,d.x.st.n,d.x.st.x,e.ld 1 0,e.ld 1 1,e.ld 1 2,e.ld 1 3,e.ld 1 4,e.ld 1 5,e.ld 1 6,e.ld 1 7,e.ld 1 8,?_⟩;refine e.av (Ph (bc.1 (e.getD 0)) (e.getD 1) (e.getD 2) S E T) ?_;rintro _ w4 rfl I;unfold uO;refine⟨_,_,_,_,rfl,I.ay λM w5 C=>bY (λA=>C.af λY y=>⟨by rw[ag A],y.fr⟩) (λA=>C.af λY y=>?_)⟩;rw[ab (λz=>z A)];generalize(bF (xs l) d.x).1=sr at *;refine y.gT 1 6 rfl (λw7 K=>K.mq 1 6 1 rfl (λw8 L=>L.mq 1 6 2 rfl (λZ j=>?_) (by simp[Nd.c])) (by simp[Nd.c])) (by simp[Nd.c])
 let h:Nd:=⟨dD d.x sr,d.ks⟩
 have j:O F0 w Z [.g D,.c F.heap.size h.c bI,.g M] [.gr s l,cg d,cO]:=j;refine j.av (Pl (d:=h) (bc.1 (j.getD 0)) (CY (j.ob 1)) (j.getD 1) E N) ?_;rintro _ aa rfl B;refine⟨_,rfl,?_⟩;have q:h.x=dD d.x sr:=rfl;rw[q];cases hi:e5 (dD d.x sr) (xs l) 0 with
 |some i=>exact aT (aM (Int.natCast_nonneg i)) ⟨rfl,B.fr⟩
 |none=>exact aV (by decide) ⟨rfl,B.fr⟩
end Go.Proofs.YtahmokchdhengaaGreatDoor
