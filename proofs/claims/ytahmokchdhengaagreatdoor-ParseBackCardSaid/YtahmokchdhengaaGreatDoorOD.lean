import Derived.Test.YtahmokchdhengaaGreatDoorTR
import Derived.Test.YtahmokchdhengaaGreatDoorVB
import Derived.Laws.CopyRow
import Derived.Test.YtahmokchdhengaaGreatDoorW
import Derived.MapKept
import Derived.Test.YtahmokchdhengaaGreatDoorN0
set_option linter.unusedVariables false
set_option maxRecDepth 100000
set_option maxHeartbeats 1000000
set_option linter.defProp false
namespace Go.Proofs.YtahmokchdhengaaGreatDoor
open Go renaming World->J,Calls->aj,Program->aw,Value->aa,TypeId->aD,Ending->cA,FuncId->bU
open Go.IntKind renaming wrap->aG
open _root_.Int renaming toNat->a1,tdiv->eP,tmod->eY,toNat_natCast->bZ
open _root_.ByteArray renaming mk->bj
open Go.IntWalk renaming i64_in->bm
open Go.Sem renaming run->ow
open _root_.Bool renaming and_eq_true->a9
open _root_.Nat renaming le_refl->be,le_trans->bp,zero_le->dc,beq->bG,mul_le_mul_right->jm
open Go.Proofs.Tryz renaming prog->U
open _root_.Decidable renaming decide->ao
open Go.Ending renaming returned->ae
open List renaming mem_append->aL,mem_cons->aE,not_mem_nil->aZ,mem_of_getElem?->aB,getElem?_eq_getElem->a5,getElem?_eq_some_iff->cr,mem_append_left->bz,mem_append_right->b0,mem_map->cz,length_append->b',append_assoc->hr,mem_singleton->bX,length_drop->e8,flatMap_append->cC,mem_cons_of_mem->cH,length_map->mb,drop_eq_getElem_cons->dk,all_eq_true->dK,append_nil->cP,nil_append->n8,map_append->dX,map_cons->iQ,getElem?_set_self->hv,drop_of_length_le->de,take_of_length_le->dM,eq_nil_of_length_eq_zero->o6
open Go Go.W
abbrev xr(e:Int)(p:Nat):aa:=.iface jS (.agg #[.i e,.i (p:Int)])
abbrev hl(e:Int)(p:Nat):List PanicEntry:=[{v:=xr e p,recovered:=false}]
structure RC where
 rb:Nat
 tk:Sl
 cs:Sl
 mo:Nat
 mv:Nat
 mm:Nat
 g:Sl
 pm:Option Nat
 kn:Int
 dp:Nat
abbrev bf(X:RC)(s:aI):En:=.c X.rb [X.tk.v,.i (s.p:Int),X.g.v,X.cs.v,.map (some X.mo),.map (some X.mv),.map (some X.mm),.map X.pm,.i X.kn,.i (X.dp:Int),.i (s.tm:Int)] ZI
def PK(t:aR):(tz t).length=3:=rfl
abbrev kY(t:aR):aa:=.agg #[.i t.kind,.string (ba t.text),.i (t.a3:Int)]
structure Ak(w:J)(p:Addr)(t:aR):Prop where
 c0:w.cell? (p.add 0)=some (.i t.kind)
 c1:w.cell? (p.add 1)=some (.string (ba t.text))
 c2:w.cell? (p.add 2)=some (.i (t.a3:Int))
def zq{w:J}{s:Sl}{l:List aR}(h:br 3 w s (hB l)){i:Nat}{d:aR}{X:Int}(k:X=(i:Int))(hi:l[i]? =some d){K:Addr->Prop}(q:∀p,s.a=some p->Ak w (p.add (a1 X *3)) d->K p):mA s X K:=by have j:=h.1;unfold hB at j;rw[nJ tz 3 PK]at j;have y:=(cr.1 hi).1;subst k;exact⟨by omega,by omega,fD.elem (f:=tz) (sz:=3) PK (by omega) h.2.2 hi λp x e=>q p x ⟨e 0 _ rfl,e 1 _ rfl,e 2 _ rfl⟩⟩
def EM{w:J}{s:Sl}{l:List aR}(x:br 3 w s (hB l)){i:Nat}{d:aR}{X:Int}(y:X=(i:Int))(hi:l[i]? =some d){p:Addr}(A:s.a=some p):Ak w (p.add (a1 X *3)) d:=by obtain⟨_,_,j⟩:=zq x y hi (K:=λh=>∃k,s.a=some k/\Ak w (k.add (a1 X *3)) d) (λh e z=>⟨h,e,z⟩);rw[A]at j;obtain⟨h,e,q⟩:=j;cases e;exact q
section
variable {M:Nat->Prop} {w0 w:J} {L D:List En} {bs:List Nat}
def _root_.Go.W.O.W3(H:O M w0 w L D)(i:Nat){e:En}(h:En){P:aw}{g:bU}{args:Array aa}{A:cA->Prop}{K:aC}(hi:L[i]? =some e)(x:aj P g args w λr d=>A r/\h.P d/\Fr (·∈e.fp) w d)(y:∀b∈h.fp,b∈e.fp)(z:∀r d,A r->O M w0 d (L.set i h) D->K r d)(q:∀b∈bs,En.g b∈L.eraseIdx i:=by simp):fq bs P g args w K:=
 ⟨(·∈e.fp),λb j B=>uL hi H.nd b B (.g b) (q b j) (by simp[En.g]),x.mono λr d ⟨k,C,f⟩=>⟨f,z r d k (H.fC i h hi f C λb j=>.inl (y b j))⟩⟩
end
section
variable {X:RC} {T:List aR}
def gu(w:J)(rb:Nat)(D:List En):Prop:=∀d∈D,d.P w/\∀e∈d.fp,e≠rb
def jf{w:J}{e:En}{D:List En}{rb:Nat}(j:e.fp=[rb])(z:e.P w)(q:gu w rb D):O (·∈[rb]) w w [e] D:=
 O.og _ _ (λh d=>by
  rw[bX.1 d];exact⟨z,λy k=>j▸k⟩) (by simp[j]) (λh d=>⟨(q h d).1,λy k B A x=>by rw[bX.1 A,j,bX]at x;exact(q h d).2 y k x⟩)
def cF{M:Nat->Prop}{w0 w:J}{L D:List En}(H:O M w0 w L D){i:Nat}{e:En}{rb:Nat}(hi:L[i]? =some e)(j:e.fp=[rb]):gu w rb D:=λd h=>⟨H.rd d h,λx q k=>H.dj d h x q e (aB hi) (by rw[j,k];simp)⟩
def hD(X:RC)(w:J){α:Type}(x:PR α)(val:α->aa):aC:=λr d=>match x with
 |.ok a s=>r=ae (val a)/\(bf X s).P d/\Fr (·∈[X.rb]) w d
 |.er e p=>r=.panicked (hl e p)/\Fr (·∈[X.rb]) w d
def BE{M:Nat->Prop}{w0 w V:J}{L D:List En}(H:O M w0 w L D){i:Nat}{e:En}(hi:L[i]? =some e)(f:Fr (·∈e.fp) w V):Fr M w0 V:=H.fr.trans f λh j d=>(H.new e (aB hi) h d).resolve_left (by omega)
def B2{M:Nat->Prop}{w0 w V:J}{L D:List En}{bs:List Nat}(H:O M w0 w L D){i:Nat}{e:En}(hi:L[i]? =some e)(f:Fr (·∈e.fp) w V)(h:∀b∈bs,En.g b∈L.eraseIdx i):kept bs w V:=λb d=>
 f.ck b ((En.g b).lt w (H.own (.g b) (List.mem_of_mem_eraseIdx (h b d))) b (by simp[En.g])) λj=>uL (f:=λe:En=>e.fp) hi H.nd b j (.g b) (h b d) (by simp[En.g])
def ew{M:Nat->Prop}{w0 w:J}{L D:List En}{bs:List Nat}(H:O M w0 w L D)(i:Nat){s:aI}{α:Type}{x:PR α}{val:α->aa}{P:aw}{f:bU}{args:Array aa}{R K:aC}(hi:L[i]? =some (bf X s))(q:aj P f args w (hD X w x val))(z:∀a e d,x=.ok a e->O M w0 d (L.set i (bf X e)) D->K (ae (val a)) d)(y:∀h p d,x=.er h p->Fr M w0 d->R (.panicked (hl h p)) d)(k:∀b∈bs,En.g b∈L.eraseIdx i:=by simp):lf bs P f args R w K:=by
 refine q.mono λr d j=>?_;unfold hD at j;split at j
 .rename_i a e;obtain⟨rfl,A,f⟩:=j;exact .inr ⟨⟨_,rfl⟩,B2 H hi f k,z a e d rfl (H.fC i (bf X e) hi f A λx B=>.inl B)⟩
 .rename_i h p;obtain⟨rfl,f⟩:=j;exact .inl ⟨_,rfl,y h p d rfl (BE H hi f)⟩
def fI{M:Nat->Prop}{w0 w:J}{L D:List En}{bs:List Nat}(H:O M w0 w L D){P:aw}{f:bU}{args:Array aa}{c:List PanicEntry}{R K:aC}(h:aj P f args w λr d=>r=.panicked c/\ah w d)(j:∀d,Fr M w0 d->R (.panicked c) d):lf bs P f args R w K:=
 h.mono λr d ⟨e,f⟩=>.inl ⟨c,e,j d (H.cd f).fr⟩
def iR(d:Addr)(e:Int)(t:aR)(w:J):aj U iL #[.pointer (some d),.i e,kY t] w λr j=>r=.panicked (hl e t.a3)/\ah w j:=
 MR.au d e t.kind (ba t.text) (t.a3:Int) w _ ((bO (w:=w) [] (by simp)).ay λb k h=>⟨rfl,h.fr⟩)
def o7(d:Addr)(t:aR)(w:J):aj U nV #[.pointer (some d),kY t] w λr h=>r=.panicked (hl (if t.kind=6 then 3 else 2) t.a3)/\ah w h:=
 M0.au d t.kind (ba t.text) (t.a3:Int) w _ ((bO (w:=w) [] (by simp)).ay λb k j=>ax (λe=>fI j (iR d 3 t k) λh f=>⟨by rw[ag e],f⟩) (λe=>fI j (iR d 2 t k) λh f=>⟨by rw[ab e],f⟩))
structure mE(X:RC)(T:List aR)(D:List En):Prop where
 t:En.a7 3 X.tk (hB T)∈D
 e:iy T
def vA{w:J}{D:List En}{s:aI}(F:(bf X s).P w)(G:gu w X.rb D)(y:mE X T D)(z:s.p<T.length):
  aj U KO #[.pointer (some (ad X.rb))] w λr C=>r=ae (kY (aW T s.p))/\(bf X (cK (aW T s.p) s)).P C/\Fr (·∈[X.rb]) w C:=by
 have A:=(pq z).2;have M:=y.e.l;generalize aW T s.p=t at A;refine MY.au _ w _ ((jf rfl F G).ay λK N E=>E.af λO h=>⟨X.tk,h.ld 0 0,_,h.ld 0 1,zq (h.rd _ y.t) rfl A λp z c=>⟨t.kind,ba t.text,t.a3,c.c0,c.c1,c.c2,h.ay λL Q d=>?_⟩⟩);have q:=EM (d.rd _ y.t) (X:=(s.p:Int)) rfl A z;refine⟨q.c0,q.c1,q.c2,d.ld 0 1,d.ld 0 0,bY (λx=>d.af λH j=>⟨_,j.ld 0 1,j.gT 0 1 rfl (λI k=>k.af λS B=>⟨rfl,?_,B.fr⟩) (by simp)⟩) (λx=>d.af λH j=>j.af λI k=>⟨rfl,?_,k.fr⟩)⟩
 .have:=B.get 0;rw[bw _ (by omega)]at this;unfold cK;rw[ab x];exact this
 .unfold cK;rw[ag x];exact k.get 0
def V5{M:Nat->Prop}{w0 w:J}{L D:List En}{bs:List Nat}(H:O M w0 w L D)(i:Nat){e h:En}{v:aa}{rb:Nat}{P:aw}{f:bU}{args:Array aa}{K:aC}(hi:L[i]? =some e)(k:e.fp=[rb])(B:h.fp=[rb])(z:aj P f args w λr d=>r=ae v/\h.P d/\Fr (·∈[rb]) w d)(C:∀d,O M w0 d (L.set i h) D->K (ae v) d)(y:∀b∈bs,En.g b∈L.eraseIdx i:=by simp):fq bs P f args w K:=
 H.W3 i h (A:=λr=>r=ae v) hi (z.mono λr d ⟨j,E,f⟩=>⟨j,E,by rw[k];exact f⟩) (λF q=>by rw[B]at q;rw[k];exact q) (λr d j x=>j▸C d x) y
def x9{M:Nat->Prop}{w0 w:J}{L D:List En}(H:O M w0 w L D)(i:Nat){e h:En}{v:aa}{rb:Nat}{P:aw}{f:bU}{args:Array aa}{K:aC}(hi:L[i]? =some e)(j:e.fp=[rb])(y:h.fp=[rb])(x:aj P f args w λr d=>r=ae v/\h.P d/\Fr (·∈[rb]) w d)(z:∀d,O M w0 d (L.set i h) D->K (ae v) d):aj P f args w K:=
 x.mono λr d ⟨q,A,f⟩=>q▸z d (H.fC i h hi (by rw[j];exact f) A λB k=>.inl (by rw[y]at k;rw[j];exact k))
def hO{w:J}{D:List En}{s:aI}{k:Int}(d:(bf X s).P w)(z:gu w X.rb D)(A:mE X T D)(B:s.p<T.length):
  aj U kK #[.pointer (some (ad X.rb)),.i k] w (hD X w (bM T k s) kY):=by
 refine MW.au _ _ w _ ((jf rfl d z).ay λC G e=>V5 e 0 rfl rfl rfl (vA (e.get 0) (cF e (i:=0) rfl rfl) A B) λH y=>⟨_,_,_,rfl,y.ay λE I j=>bY (λd=>j.af λx h=>fI h (o7 _ (aW T s.p) x) λF f=>?_) (λd=>j.af λx h=>h.af λK q=>?_)⟩)
 .unfold hD bM;rw[ab d];exact⟨rfl,f⟩
 .unfold hD bM;rw[ag d];exact⟨rfl,q.get 0,q.fr⟩
end
def tF(g:List Nx):List Int:=((List.range g.length).filter λi=>match g[i]? with |some d=>ao (d.op=0)|none=>false).map λi:Nat=>(i:Int)
def wA(g:List Nx):Prop:=∀(i:Nat) (d:Nx),g[i]? =some d->∀e∈d.kids,0<=e/\e<(i:Int)
def Vg.xG{g:List Nx}(d:Vg g):wA g:=λ_ _ e=>d.kids e
def jG(n m:Int)(w:J)(h:1<=m)(d:dx n):aj U vb #[.i n,.i m] w λr e=>r=ae (.i (gv n m))/\ah w e:=(FH n m w h d).mono λr e d=>⟨d.1,d.2▸Fr.refl _ _⟩
def qZ(t:List UInt8)(s:aU):Nx:=⟨0,[],0,0,0,ba t,s⟩
def lO(t:List UInt8)(s:aU):Nd:=⟨qZ t s,⟨none,0,0⟩⟩
def pg:List Nd:=[lO [97] (a' 2),lO [98] (a' 2),lO [99] (a' 1),lO [100] (a' 3)]
def ph:List Nd:=[lO [109] ⟨2,2,1⟩,lO [110] ⟨2,2,1⟩]
def mn:List Nd:=[lO [115] (eN 2),lO [116] (eN 1),lO [105] (a' 7),lO [122] ⟨3,1,1⟩]
def gm(kind:Int):List Nd:=pg++(if kind>0 then ph else[])++(if kind>1 then mn else[])
def ZS(l:List Nx):Bool:=(List.range l.length).all λi=>match l[i]? with
 |some n=>ao (bF (l.take i) n=(n.st,0))&&ao (n∉l.take i)
 |none=>false
def zE{l:List Nx}(h:ZS l=true):Vg l:=by
 have main:∀i,i<=l.length->Vg (l.take i):=by
  intro i;induction i with
  |zero=>intro _;rw[List.take_zero];exact .nil
  |succ i j=>
   intro k;have d:=dK.1 h i (List.mem_range.2 (by omega));have e:l[i]? =some (l[i]'(by omega)):=a5 (by omega);rw[e]at d;dsimp only at d;rw[List.take_add_one,e];simp only[a9,decide_eq_true_eq]at d;exact .snoc (j (by omega)) d.1 d.2
 have:=main l.length (be _)
 rwa[List.take_length]at this
def YW(kind:Int):Vg (xs (gm kind)):=by
 unfold gm;split
 .split
  .exact zE (by kernel_rfl)
  .exact zE (by kernel_rfl)
 .split
  .exact zE (by kernel_rfl)
  .exact zE (by kernel_rfl)
def nj:List ByteArray:=[ba [],ba [97],ba [97,98],ba [98],ba [0],ba [97,97]]
structure MdN(d:Nx):Prop where
 Mu:-1<=d.op
 Mw:d.op<=34
 kl:d.kids.length<=3
 n:0<=d.n/\d.n<=100
 m:0<=d.m/\d.m<=100
 u:0<=d.u/\d.u<=1000
 tx:d.op≠33->d.tx.size<=16
 re:d.op=33->∃k,d.tx=ba (ng k)
 li:d.op=2->d.tx∈nj
structure kv(g:List Nx):Prop where
 vg:Vg g
 nd:∀d∈g,MdN d
def YV(kind:Int):kv (xs (gm kind)):=by
 refine⟨YW kind,λh k=>?_⟩;have e:∃t s,h=qZ t s/\t.length<=16:=by
  have j:h∈xs (pg++ph++mn):=by
   obtain⟨a,d,rfl⟩:=cz.1 k;refine cz.2 ⟨a,?_,rfl⟩;unfold gm at d;rcases aL.1 d with d|d
   .rcases aL.1 d with d|d
    .simp [d]
    .split at d
     .simp [d]
     .cases d
   .split at d
    .simp [d]
    .cases d
  simp only[xs,pg,ph,mn,lO,List.cons_append,n8,iQ,List.map_nil,aE,aZ,a2]at j;rcases j with rfl|rfl|rfl|rfl|rfl|rfl|rfl|rfl|rfl|rfl<;>exact⟨_,_,rfl,by decide⟩
 obtain⟨t,s,rfl,q⟩:=e;exact⟨by show(-1:Int)<=0;omega,by show(0:Int)<=34;omega,by simp[qZ],by simp[qZ],by simp[qZ],by simp[qZ],λ_=>by show(ba t).size<=16;rw[bC];exact q,λe=>(by cases e),λe=>(by cases e)⟩
def Ey{kind:Int}:∀e∈gm kind,e.x.kids=[]/\e.ks=⟨none,0,0⟩:=by
 intro e j;have h:e∈pg++ph++mn:=by
  unfold gm at j;rcases aL.1 j with d|d
  .rcases aL.1 d with d|d
   .simp [d]
   .split at d
    .simp [d]
    .cases d
  .split at d
   .simp [d]
   .cases d
 simp only[pg,ph,mn,lO,qZ,List.cons_append,n8,aE,aZ,a2]at h;rcases h with rfl|rfl|rfl|rfl|rfl|rfl|rfl|rfl|rfl|rfl<;>exact⟨rfl,rfl⟩
def YT{kind:Int}{w w0:J}{s:Sl}(q:br 9 w s ((gm kind).flatMap Nd.c))(y:∀b∈aN s,w0.heap.size<=b):GR w0 F0 (xs (gm kind)) s w:=by
 refine⟨gm kind,rfl,⟨q,λe j=>?_⟩,λb d=>.inr ?_⟩
 .obtain ⟨h,k⟩:=Ey e j;show bW w e.ks e.x.kids;rw[h,k];exact Rd.nil w
 .rcases sa.1 d with d|⟨e,j,d⟩
  .exact o9 y b d
  .obtain ⟨h,k⟩:=Ey e j;unfold cg at d;rw[h]at d;cases d
def YU(kind:Int):1<=(gm kind).length/\(gm kind).length<=10:=by unfold gm;split<;>split<;>decide
def Sg(kind:Int)(w:J):aj U Ko #[.i kind] w λr x=>(∃s:Sl,r=ae s.v/\GR w F0 (xs (gm kind)) s x)/\ah w x:=by
 refine Bk.ok kind w _ ((bO [] (by simp)).call (ff 2 w) ?_);rintro _ w1 rfl N;refine⟨_,_,_,rfl,N.call (ff 2 w1) ?_⟩;rintro _ w2 rfl Q;refine⟨_,_,_,rfl,Q.call (ff 1 w2) ?_⟩;rintro _ w3 rfl S;refine⟨_,_,_,rfl,S.call (ff 3 w3) ?_⟩;rintro _ M rfl T;refine⟨_,_,_,rfl,T.eK (n:=4) (sz:=9) (cs:=pg.flatMap Nd.c) rfl (by decide) λF H=>?_⟩;have fin:∀(l:Sl) (d:J) (L:List En) (j:Nat),O F0 w d L []->L[j]? =some (.row bI 9 l ((gm kind).flatMap Nd.c))->(∃s:Sl,Ending.returned l.v=ae s.v/\GR w F0 (xs (gm kind)) s d)/\ah w d:=λl d L j e h=>
  ⟨⟨l,rfl,YT (e.get j h:aK _ _ _ _ _).a7 λb Y=>(e.new _ (aB h) b Y).resolve_right id⟩,e.fr⟩
 have I:∀(l:Sl) (d:J) (L:List En) (j:Nat) (k:List Nd),O F0 w d L []->k.length<=6->gm kind=k++(if kind>1 then mn else[])->L[j]? =some (.row bI 9 l (k.flatMap Nd.c))->Bk.S0 kind l d λr x=>(∃s:Sl,r=ae s.v/\GR w F0 (xs (gm kind)) s x)/\ah w x:=by
  intro l d L j k e af z h;refine aS (λD=>?_) (λD=>?_)
  .rw [ag D]at z;refine e.call (nC 2 d) ?_;rintro _ G rfl B;refine⟨_,_,_,rfl,B.call (nC 1 G) ?_⟩;rintro _ w8 rfl V;refine⟨_,_,_,rfl,V.call (ff 7 w8) ?_⟩;rintro _ y rfl W;refine⟨_,_,_,rfl,W.eK (n:=4) (sz:=9) (cs:=mn.flatMap Nd.c) rfl (by decide) λaa A=>?_⟩;have K:(L++[En.row bI 9 ⟨some (ad y.heap.size),4,4⟩ (mn.flatMap Nd.c)])[j]? =some (.row bI 9 l (k.flatMap Nd.c)):=by rw[List.getElem?_append_left (cr.1 h).1];exact h
   have Z:(L++[En.row bI 9 ⟨some (ad y.heap.size),4,4⟩ (mn.flatMap Nd.c)])[L.length]? =some (.row bI 9 ⟨some (ad y.heap.size),4,4⟩ (mn.flatMap Nd.c)):=by simp
   have hn:l.n=k.length:=by have:=(A.get j K:aK _ _ _ _ _).len;rw[Nd.gZ]at this;omega
   have q:br 9 aa ⟨some (ad y.heap.size),4,4⟩ (mn.flatMap Nd.c):=(A.get L.length Z:aK _ _ _ _ _).a7;refine A.ap j mL (src:=⟨some (ad y.heap.size),4,4⟩) K q.2.2 q.1 qs (by simp only;omega) (λE ac P _ _=>?_);refine fin E ac _ j P ?_;rw[hv (by simp;have:=(cr.1 h).1;omega),z,cC]
  .rw [ab D,cP]at z;rw[<-z]at h;exact fin l d L j e h
 refine aS (λC=>H.eK (n:=2) (sz:=9) (cs:=ph.flatMap Nd.c) rfl (by decide) λd e=>?_) (λC=>?_)
 .have q:br 9 d ⟨some (ad F.heap.size),2,2⟩ (ph.flatMap Nd.c):=(e.get 1:aK _ _ _ _ _).a7;refine e.ap 0 mL (s:=⟨some (ad M.heap.size),4,4⟩) (src:=⟨some (ad F.heap.size),2,2⟩) rfl q.2.2 q.1 qs (by show(4+2) *96<=_;omega) (λE G B _ _=>?_);refine I E G _ 0 (pg++ph) B (by decide) ?_ ?_
  .unfold gm;rw[ag C]
  .rw [cC];rfl
 .refine I ⟨some (ad M.heap.size),4,4⟩ F _ 0 pg H (by decide) ?_ rfl;unfold gm;rw[ab C,cP]
def Sm(kind:Int)(s:aU)(w:J):aj U Kq #[.i kind,dq s] w λr h=>(∃b:Bool,r=ae (.bool b))/\ah w h:=
 HL.au _ _ _ _ w _ ((bO [] (by simp)).ay λb j e=>ax (λd=>⟨⟨_,rfl⟩,e.fr⟩) (λd=>aS (λd=>ax (λd=>⟨⟨_,rfl⟩,e.fr⟩) (λd=>⟨⟨_,rfl⟩,e.fr⟩)) (λd=>⟨⟨_,rfl⟩,e.fr⟩)))
set_option maxHeartbeats 2000000
def Z1{P:aw}{n:Cx}{c:Code}{Q:Exit->Act->J->Prop}{E E':Env}{w:J}(e:∀t v,E'.get? t=some v->E.get? t=some v)(j:WP P n c Q E' w):WP P n c Q E w:=λa d=>j a ⟨d.defers,d.size,λt v h=>d.get t v (e t v h)⟩
def Y6{E:Env}{i j:Nat}{a b:aa}(k:E.get? i=some a)(q:E.get? j=some b):∀t v,Env.get? [(i,a),(j,b)] t=some v->E.get? t=some v:=by
 intro t v d;unfold Env.get? at d;cases e:bG i t with
 |true=>
  rw[e]at d;have:=Nat.eq_of_beq_eq_true e;subst this;rw[k];exact d
 |false=>
  rw[e]at d;have d:Env.get? [(j,b)] t=some v:=d;unfold Env.get? at d;cases h:bG j t with
  |true=>
   rw[h]at d;have:=Nat.eq_of_beq_eq_true h;subst this;rw[q];exact d
  |false=>rw[h]at d;cases d
namespace uz
abbrev T9(s:Sl)(k:Int)(w:J)(R:aC):Prop:=
 (0:Int)<=(eY (aG .i64 (eP k 216)) 8)/\(eY (aG .i64 (eP k 216)) 8)<((s.n:Nat):Int)/\dJ s.a λp=>iJ w (p.add (a1 (eY (aG .i64 (eP k 216)) 8) *4)) λa b c d=>w2 vd #[.agg #[.i a,.int .u8 b,.int .u8 c,d.v]] w λe f g i h=>GG oW #[.agg #[.i e,.int .u8 f,.int .u8 g,i.v],.i 0] h λt j=>R (ae (.string t)) j
def K9(R:aC)(E:Env)(w:J):Prop:=∃(s:Sl) (k:Int),E.get? 9=some s.v/\E.get? 3=some (.i k)/\T9 s k w R
noncomputable def C0:Code:=(Tryz.f32.body).getD .skip
noncomputable def C1:=C0.sn
noncomputable def C2:=C1.sn
noncomputable def C3:=C2.sn
noncomputable def C4:=C3.sn
noncomputable def C5:=C4.sn
noncomputable def C6:=C5.sn
noncomputable def C7:=C6.sn
noncomputable def C8:=C7.sn
noncomputable def C9:=C8.sn
def ok(h:Int)(w:J)(R:aC)(z:Sn vb #[.i h,.i 1048576] w λt11 w1=>w2 nT #[] w1 λB C D F e=>cS e (.cells #[.i 2,.int .u8 97,.int .u8 97,.slice none 0 0,.i 2,.int .u8 98,.int .u8 98,.slice none 0 0,.i 2,.int .u8 0,.int .u8 0,.slice none 0 0,.i 2,.int .u8 97,.int .u8 98,.slice none 0 0,.i 1,.int .u8 0,.int .u8 0,.slice none 0 0,.i B,.int .u8 C,.int .u8 D,F.v] aH) λq=>
 (0:Int)<=(eY t11 6)/\(eY t11 6)<((6:Nat):Int)/\dJ (some (nb e)) λG=>iJ q (G.add (a1 (eY t11 6) *4)) λH I K L=>cS q (.cells #[.i 0,.int .u8 0,.int .u8 0,.slice none 0 0] aH) λw4=>
 ml w4 (nb q) (.i H) (.int .u8 I) (.int .u8 K) (L.v) λy=>(0:Int)<=(eY (aG .i64 (eP t11 6)) 6)/\(eY (aG .i64 (eP t11 6)) 6)<((6:Nat):Int)/\dJ (some (nb e)) λM=>iJ y (M.add (a1 (eY (aG .i64 (eP t11 6)) 6) *4)) λN O P Q=>cS y (.cells #[.i 0,.int .u8 0,.int .u8 0,.slice none 0 0] aH) λw9=>
 ml w9 (nb y) (.i N) (.int .u8 O) (.int .u8 P) (Q.v) λx=>(0:Int)<=(eY (aG .i64 (eP t11 36)) 6)/\(eY (aG .i64 (eP t11 36)) 6)<((6:Nat):Int)/\dJ (some (nb e)) λS=>iJ x (S.add (a1 (eY (aG .i64 (eP t11 36)) 6) *4)) λT V W Y=>cS x (.cells #[.i 0,.int .u8 0,.int .u8 0,.slice none 0 0] aH) λad=>
 ml ad (nb x) (.i T) (.int .u8 V) (.int .u8 W) (Y.v) λj=>iJ j (nb q) λZ aa ab ac=>cS j (.cells #[.i Z,.int .u8 aa,.int .u8 ab,ac.v] aH) λA=>
 cS A (.cells #[.i 0,.int .u8 0,.int .u8 0,.slice none 0 0] aH) λaf=>
 ml af (nb A) (.i 7) (.int .u8 0) (.int .u8 0) (.slice (some (nb j)) 1 1) λag=>vQ U C7 (K9 R) [(8,.pointer (some (nb A))),(38,.agg #[.i 7,.int .u8 0,.int .u8 0,.slice (some (nb j)) 1 1]),(37,.slice (some (nb j)) 1 1),(36,.agg #[.i Z,.int .u8 aa,.int .u8 ab,ac.v]),(7,.pointer (some (nb x))),(35,.agg #[.i T,.int .u8 V,.int .u8 W,Y.v]),(34,.pointer (some (S.add (a1 (eY (aG .i64 (eP t11 36)) 6) *4)))),(33,.i (eY (aG .i64 (eP t11 36)) 6)),(32,.i (aG .i64 (eP t11 36))),(31,.i t11),(30,.slice (some (nb e)) 6 6),(6,.pointer (some (nb y))),(29,.agg #[.i N,.int .u8 O,.int .u8 P,Q.v]),(28,.pointer (some (M.add (a1 (eY (aG .i64 (eP t11 6)) 6) *4)))),(27,.i (eY (aG .i64 (eP t11 6)) 6)),(26,.i (aG .i64 (eP t11 6))),(25,.i t11),(24,.slice (some (nb e)) 6 6),(5,.pointer (some (nb q))),(23,.agg #[.i H,.int .u8 I,.int .u8 K,L.v]),(22,.pointer (some (G.add (a1 (eY t11 6) *4)))),(21,.i (eY t11 6)),(20,.i t11),(19,.slice (some (nb e)) 6 6),(4,.slice (some (nb e)) 6 6),(18,.slice (some (nb e)) 6 6),(17,.agg #[.i B,.int .u8 C,.int .u8 D,F.v]),(16,.agg #[.i 1,.int .u8 0,.int .u8 0,.slice none 0 0]),(15,.agg #[.i 2,.int .u8 97,.int .u8 98,.slice none 0 0]),(14,.agg #[.i 2,.int .u8 0,.int .u8 0,.slice none 0 0]),(13,.agg #[.i 2,.int .u8 98,.int .u8 98,.slice none 0 0]),(12,.agg #[.i 2,.int .u8 97,.int .u8 97,.slice none 0 0]),(3,.i t11),(11,.i t11),(10,.i h),(2,.s0),(0,.i h)] ag):aj U JN #[.i h] w R:=
 ug (R:=R) (fn:=Tryz.f32) (c:=C0) (args:=[.i h]) (by kernel_rfl) (by kernel_rfl) (by kernel_rfl) (sr C0 (show(λ(E:Env) (w:J)=>ez U C0 (λE w=>ez U C1 (λE w=>ez U C2 (λE w=>ez U C3 (λE w=>ez U C4 (λE w=>ez U C5 (λE w=>ez U C6 (λE w=>vQ U C7 (K9 R) E w) E w) E w) E w) E w) E w) E w) E w) (jA 0 [.i h]) w from mp z) λ_ _ d=>(sr C1 d λ_ _ d=>(sr C2 d λ_ _ d=>(sr C3 d λ_ _ d=>(sr C4 d λ_ _ d=>(sr C5 d λ_ _ d=>(sr C6 d λ_ _ d=>(si C7 (by kernel_rfl) d λ_ _ d=>(let ⟨s,k,h9,h3,z⟩:=d;Z1 (E':=[(9,s.v),(3,.i k)]) (Y6 h9 h3) (sr C8 (show ez U C8 (λE w=>kg U Tryz.f32 E w (λv=>R (ae v) w)) [(9,s.v),(3,.i k)] _ from mp z) λ_ _ d=>(rt C9 λa hA=>vH hA d)))))))))))
end uz
inductive tV where
 |tr (x:Rx)
 |ls (l:List Rx)
def uW(base:Nat)(w:J)(v:Option aa):tV->Prop
 |.tr d=>∃t:I,v=some t.v/\t.rx=d/\t.P w/\∀b∈t.fp,base<=b
 |.ls l=>∃(s:Sl) (ts:List I),v=some s.v/\I.aq ts=l/\(bE s ts).P w/\∀b∈(bE s ts).fp,base<=b
def uW.cd{base:Nat}{w V:J}{v:Option aa}{k:tV}(q:uW base w v k)(f:ah w V):uW base V v k:=by
 cases k with
 |tr y=>obtain⟨t,d,e,h,j⟩:=q;exact⟨t,d,e,h.cd f,j⟩
 |ls l=>obtain⟨s,x,d,e,h,j⟩:=q;exact⟨s,x,d,e,h.cd f,j⟩
def c'(i:Nat):Nat:=if i=40 then 9 else 39+i
def ju(base:Nat)(w:J)(E:Env)(t:Nat)(x:Rx):Prop:=∃(b:Nat) (u:I),E.get? t=some (.pointer (some (ad b)))/\w.heap[b]? =some (.cells u.c.toArray aH (0,0))/\u.rx=x/\u.P w/\∀c∈u.fp,base<=c
def ju.cd{base:Nat}{w V:J}{E:Env}{t:Nat}{x:Rx}(e:ju base w E t x)(f:ah w V):ju base V E t x:=by obtain⟨b,u,h,d,j,k,q⟩:=e;exact⟨b,u,h,(f.ck b (lC d) id).trans d,j,k.cd f,q⟩
def ju.put{base:Nat}{w:J}{E:Env}{t d:Nat}{v:aa}{x:Rx}(e:ju base w E t x)(hd:d≠t):ju base w (E.put (some d) v) t x:=by obtain⟨b,u,h,j⟩:=e;exact⟨b,u,by rw[iH hd];exact h,j⟩
section
variable (w0:J) (base:Nat) (kk:Int) (Xa Xb Xc Xs:Rx)
def dn:List tV:=[.tr Xa,
 .tr Xa,
 .tr Xb,
 .ls [Xa,Xb],
 .tr (.mk 3 0 0 [Xa,Xb]),
 .tr Xa,
 .tr Xb,
 .tr Xc,
 .ls [Xa,Xb,Xc],
 .tr (.mk 4 0 0 [Xa,Xb,Xc]),
 .tr Xs,
 .tr Xs,
 .tr Xb,
 .ls [Xs,Xb],
 .tr (.mk 3 0 0 [Xs,Xb]),
 .tr Xa,
 .tr Xb,
 .ls [Xa,Xb],
 .tr (.mk 3 0 0 [Xa,Xb]),
 .ls [(.mk 3 0 0 [Xa,Xb])],
 .tr (.mk 6 0 0 [(.mk 3 0 0 [Xa,Xb])]),
 .tr Xb,
 .tr Xa,
 .tr Xc,
 .ls [Xa,Xc],
 .tr (.mk 4 0 0 [Xa,Xc]),
 .ls [(.mk 4 0 0 [Xa,Xc])],
 .tr (.mk 7 0 0 [(.mk 4 0 0 [Xa,Xc])]),
 .ls [Xb,(.mk 7 0 0 [(.mk 4 0 0 [Xa,Xc])])],
 .tr (.mk 3 0 0 [Xb,(.mk 7 0 0 [(.mk 4 0 0 [Xa,Xc])])]),
 .tr Xb,
 .ls [Xb],
 .tr (.mk 6 0 0 [Xb]),
 .tr Xa,
 .tr eo,
 .ls [Xa,eo],
 .tr (.mk 3 0 0 [Xa,eo]),
 .ls [(.mk 6 0 0 [Xb]),(.mk 3 0 0 [Xa,eo])],
 .tr (.mk 5 0 0 [(.mk 6 0 0 [Xb]),(.mk 3 0 0 [Xa,eo])]),
 .ls [Xa,(.mk 3 0 0 [Xa,Xb]),(.mk 4 0 0 [Xa,Xb,Xc]),Xs,(.mk 3 0 0 [Xs,Xb]),(.mk 6 0 0 [(.mk 3 0 0 [Xa,Xb])]),(.mk 3 0 0 [Xb,(.mk 7 0 0 [(.mk 4 0 0 [Xa,Xc])])]),(.mk 5 0 0 [(.mk 6 0 0 [Xb]),(.mk 3 0 0 [Xa,eo])])],
 .ls [Xa,(.mk 3 0 0 [Xa,Xb]),(.mk 4 0 0 [Xa,Xb,Xc]),Xs,(.mk 3 0 0 [Xs,Xb]),(.mk 6 0 0 [(.mk 3 0 0 [Xa,Xb])]),(.mk 3 0 0 [Xb,(.mk 7 0 0 [(.mk 4 0 0 [Xa,Xc])])]),(.mk 5 0 0 [(.mk 6 0 0 [Xb]),(.mk 3 0 0 [Xa,eo])])]]
structure JT(L:Nat->Bool)(E:Env)(w:J):Prop where
 fr:ah w0 w
 k:E.get? 3=some (.i kk)
 a:ju base w E 5 Xa
 b:ju base w E 6 Xb
 c:ju base w E 7 Xc
 s:ju base w E 8 Xs
 all:∀(i:Nat) (sp:tV),(dn Xa Xb Xc Xs)[i]? =some sp->L i=true->uW base w (E.get? (c' i)) sp
variable {w0 base kk Xa Xb Xc Xs}
def JT.step{L:Nat->Bool}{E:Env}{w V:J}(e:JT w0 base kk Xa Xb Xc Xs L E w)(f:ah w V){i d:Nat}(hd:d=c' i){v:aa}{y:tV}(x:(dn Xa Xb Xc Xs)[i]? =some y)(z:uW base V (some v) y):JT w0 base kk Xa Xb Xc Xs (db L i) (E.put (some d) v) V:=by
 have F:9<=d:=by rw[hd];unfold c';split<;>omega
 refine⟨e.fr.gE f,by rw[iH (by omega)];exact e.k,(e.a.cd f).put (by omega),(e.b.cd f).put (by omega),(e.c.cd f).put (by omega),(e.s.cd f).put (by omega),λh sq j A=>?_⟩;by_cases q:h=i
 .subst q;rw[x]at j;cases j;rw[<-hd,r'];exact z
 .have B:d≠c' h:=by rw[hd];have C:i<41:=(cr.1 x).1;have D:h<41:=(cr.1 j).1;unfold c';split<;>split<;>omega
  rw[iH B];refine(e.all h sq j ?_).cd f;have:bG h i=false:=by rw[<-Bool.not_eq_true,Nat.beq_eq];exact q
  simpa[db,this]using A
abbrev iv(w0:J)(base:Nat)(kk:Int)(Xa Xb Xc Xs:Rx)(i:Nat)(r:Op×Option Nat×aD×List Nat):Prop:=wF U (JT w0 base kk Xa Xb Xc Xs) i r
def Ve{b:Nat}{u:I}{w:J}(d:w.heap[b]? =some (.cells u.c.toArray aH (0,0))){K:aa->Prop}(C:K u.v):mU U aH (ad b) w λv _=>K v:=by
 have x:=cellAt (p:=ad b) (i:=0) (v:=.int .i64 u.k) d rfl rfl;have y:=cellAt (p:=ad b) (i:=1) (v:=.int .u8 (u.lo.toNat:Int)) d rfl rfl;have z:=cellAt (p:=ad b) (i:=2) (v:=.int .u8 (u.hi.toNat:Int)) d rfl rfl;have A:=cellAt (p:=ad b) (i:=3) (v:=u.s.v) d rfl rfl;have B:(mU U aH (ad b) w λv _=>K v)=(∃e:Int,∃h:Int,∃j:Int,∃q:Sl,w.cell? ((ad b).add 0)=some (.int .i64 e)/\w.cell? ((ad b).add 1)=some (.int .u8 h)/\w.cell? ((ad b).add 2)=some (.int .u8 j)/\w.cell? ((ad b).add 3)=some q.v/\K (.agg #[.int .i64 e,.int .u8 h,.int .u8 j,q.v])):=by kernel_rfl
 rw[B];exact⟨_,_,_,u.s,x,y,z,A,C⟩
def yX{ty:aD}{q:List Nat}{t:Nat}{x:Rx}(i d:Nat)(hd:d=c' i)(E:(dn Xa Xb Xc Xs)[i]? =some (.tr x))(F:∀j e h,JT w0 base kk Xa Xb Xc Xs j e h->ju base h e t x):iv w0 base kk Xa Xb Xc Xs i (.load aH (.tmp t),some d,ty,q):=by intro j e h o D C I H G k;obtain⟨b,u,w,y,z,A,B⟩:=F j e h k;refine qU D w (Ve y ?_);rw[C];exact k.step (Fr.refl _ _) hd E ⟨u,rfl,z,A,B⟩
def s8{ty:aD}{h:List Nat}(i d:Nat)(j:(dn Xa Xb Xc Xs)[i]? =some (.tr Xa))(hd:d=c' i:=by rfl):iv w0 base kk Xa Xb Xc Xs i (.load aH (.tmp 5),some d,ty,h):=yX i d hd j λ_ _ _ e=>e.a
def s9{ty:aD}{h:List Nat}(i d:Nat)(j:(dn Xa Xb Xc Xs)[i]? =some (.tr Xb))(hd:d=c' i:=by rfl):iv w0 base kk Xa Xb Xc Xs i (.load aH (.tmp 6),some d,ty,h):=yX i d hd j λ_ _ _ e=>e.b
def Ob{ty:aD}{h:List Nat}(i d:Nat)(j:(dn Xa Xb Xc Xs)[i]? =some (.tr Xc))(hd:d=c' i:=by rfl):iv w0 base kk Xa Xb Xc Xs i (.load aH (.tmp 7),some d,ty,h):=yX i d hd j λ_ _ _ e=>e.c
def Od{ty:aD}{h:List Nat}(i d:Nat)(j:(dn Xa Xb Xc Xs)[i]? =some (.tr Xs))(hd:d=c' i:=by rfl):iv w0 base kk Xa Xb Xc Xs i (.load aH (.tmp 8),some d,ty,h):=yX i d hd j λ_ _ _ e=>e.s
def X6(a:I)(w:J):(Instr.buildSlice cY 1 #[((0:Nat),a.v)]).run U w=.ok (.slice (some (ad w.heap.size)) 1 1) (w.alloc (.cells ([a].flatMap I.c).toArray aH)):=by kernel_rfl
def X7(a b:I)(w:J):(Instr.buildSlice cY 2 #[((0:Nat),a.v),(1,b.v)]).run U w=.ok (.slice (some (ad w.heap.size)) 2 2) (w.alloc (.cells ([a,b].flatMap I.c).toArray aH)):=by kernel_rfl
def X8(a b c:I)(w:J):(Instr.buildSlice cY 3 #[((0:Nat),a.v),(1,b.v),(2,c.v)]).run U w=.ok (.slice (some (ad w.heap.size)) 3 3) (w.alloc (.cells ([a,b,c].flatMap I.c).toArray aH)):=by kernel_rfl
def X9(a b c q e g r s:I)(w:J):(Instr.buildSlice cY 8 #[((0:Nat),a.v),(1,b.v),(2,c.v),(3,q.v),(4,e.v),(5,g.v),(6,r.v),(7,s.v)]).run U w=.ok (.slice (some (ad w.heap.size)) 8 8) (w.alloc (.cells ([a,b,c,q,e,g,r,s].flatMap I.c).toArray aH)):=by kernel_rfl
def zh{o:Oper}{T:aD}{n:Nat}{parts:Array (Nat×Operand)}{E:Env}{w V:J}{v:aa}{K:Env->J->Prop}(d:o.op=.buildSlice T n parts)(h:E.eI o=true)(k:(Instr.buildSlice T n (parts.map λp=>(p.1,E.ev p.2))).run U w=.ok v V)(e:K (E.put o.dst v) V):iV U o E w K:=by
 obtain⟨dst,op,q,pos,after,guard⟩:=o;simp only at d;subst d;have j:r2 U ⟨dst,.buildSlice T n parts,q,pos,after,guard⟩ E w (λv V=>K (E.put dst v) V):=by unfold r2;rw[h];show cB true _;simp only[execOp];rw[show(λ(x:Nat×Operand)=>match x with |(i,x)=>(i,E.ev x))=λp=>(p.1,E.ev p.2)from rfl];simp[k];exact e
 unfold iV;simp only[calm,cond_false];unfold g0;exact j
def jB{E:Env}{t:Nat}{v:aa}(d:E.get? t=some v):E.ev (.tmp t)=v:=by simp[Env.ev,Env.val,d]
def xS{w:J}{ts:List I}{n:Nat}(q:n=ts.length)(z:n<=1000)(x:I.Ps w ts)(k:∀b∈I.a8 ts,base<=b)(h:base<=w.heap.size):
  (bE ⟨some (ad w.heap.size),n,n⟩ ts).P (w.alloc (.cells (ts.flatMap I.c).toArray aH))/\∀b∈(bE ⟨some (ad w.heap.size),n,n⟩ ts).fp,base<=b:=by
 have y:=aK.made w aH 4 n (ts.flatMap I.c) (by rw[I.gZ,q]) (by unfold maxLen;omega);refine⟨dd.2 ⟨y.a7,x.cd (Fr.alloc _ _ _)⟩,λb j=>?_⟩;rcases lB.1 j with d|d
 .exact o9 (λc e=>by simp only[aN,aE,aZ,a2]at e;rw[e];exact h) b d
 .exact k b d
def JT.ub{L:Nat->Bool}{E:Env}{w:J}(d:JT w0 base kk Xa Xb Xc Xs L E w)(e:base<=w0.heap.size):base<=w.heap.size:=bp e d.fr.size
section
variable (uS:base<=w0.heap.size)
include uS
def D9{ty:aD}{y:List Nat}(i d e:Nat){x:Nat}{x0:Rx}(K:(dn Xa Xb Xc Xs)[i]? =some (.ls [x0]))(F:(dn Xa Xb Xc Xs)[e]? =some (.tr x0))(L:e∈y)(hd:d=c' i:=by rfl)(E:x=c' e:=by rfl):iv w0 base kk Xa Xb Xc Xs i (.buildSlice cY 1 #[(0,.tmp x)],some d,ty,y):=by
 intro M A h o q H O N G j;obtain⟨a,k,B,C,D⟩:=j.all e _ F (G e L);rw[<-E]at k;have z:=xS (base:=base) (w:=h) (ts:=[a]) (n:=1) rfl (by omega) (I.iP (by simp[C])) (by simp[I.a8];exact D) (j.ub uS);refine zh (V:=h.alloc (.cells ([a].flatMap I.c).toArray aH)) (v:=.slice (some (ad h.heap.size)) 1 1) q (by obtain⟨_,op,_,_,_,_⟩:=o;simp only at q;subst q;simp[Env.eI,Op.operands,Env.val,k]) ?_ ?_
 .rw [show(#[((0:Nat),Operand.tmp x)].map λp=>(p.1,A.ev p.2))=#[((0:Nat),a.v)]by simp[jB k]];exact X6 a h
 .rw [H];exact j.step (Fr.alloc _ _ _) hd K ⟨⟨some (ad h.heap.size),1,1⟩,[a],rfl,by simp[I.aq,B],z.1,z.2⟩
def qM{ty:aD}{y:List Nat}(i d e h:Nat){A B:Nat}{x0 x1:Rx}(W:(dn Xa Xb Xc Xs)[i]? =some (.ls [x0,x1]))(P:(dn Xa Xb Xc Xs)[e]? =some (.tr x0))(Q:(dn Xa Xb Xc Xs)[h]? =some (.tr x1))(Y:e∈y)(Z:h∈y)(hd:d=c' i:=by rfl)(N:A=c' e:=by rfl)(O:B=c' h:=by rfl):iv w0 base kk Xa Xb Xc Xs i (.buildSlice cY 2 #[(0,.tmp A),(1,.tmp B)],some d,ty,y):=by
 intro aa E j o z T ht hi C k;obtain⟨a,q,F,G,H⟩:=k.all e _ P (C e Y);obtain⟨b,x,K,L,M⟩:=k.all h _ Q (C h Z);rw[<-N]at q;rw[<-O]at x;have D:=xS (base:=base) (w:=j) (ts:=[a,b]) (n:=2) rfl (by omega) (I.iP (by simp[G,L])) (by simp[I.a8];exact λc S=>S.elim (H c) (M c)) (k.ub uS);refine zh (V:=j.alloc (.cells ([a,b].flatMap I.c).toArray aH)) (v:=.slice (some (ad j.heap.size)) 2 2) z (by obtain⟨_,op,_,_,_,_⟩:=o;simp only at z;subst z;simp[Env.eI,Op.operands,Env.val,q,x]) ?_ ?_
 .rw [show(#[((0:Nat),Operand.tmp A),(1,.tmp B)].map λp=>(p.1,E.ev p.2))=#[((0:Nat),a.v),(1,b.v)]by simp[jB q,jB x]];exact X7 a b j
 .rw [T];exact k.step (Fr.alloc _ _ _) hd W ⟨⟨some (ad j.heap.size),2,2⟩,[a,b],rfl,by simp[I.aq,F,K],D.1,D.2⟩
def XY{ty:aD}{x:List Nat}(i d h j k:Nat){E F t2:Nat}{x0 x1 x2:Rx}(hs:(dn Xa Xb Xc Xs)[i]? =some (.ls [x0,x1,x2]))(h0:(dn Xa Xb Xc Xs)[h]? =some (.tr x0))(h1:(dn Xa Xb Xc Xs)[j]? =some (.tr x1))(h2:(dn Xa Xb Xc Xs)[k]? =some (.tr x2))(m0:h∈x)(m1:j∈x)(m2:k∈x)(hd:d=c' i:=by rfl)(Y:E=c' h:=by rfl)(Z:F=c' j:=by rfl)(e2:t2=c' k:=by rfl):iv w0 base kk Xa Xb Xc Xs i (.buildSlice cY 3 #[(0,.tmp E),(1,.tmp F),(2,.tmp t2)],some d,ty,x):=by
 intro ab K q o C aa ht hi B e;obtain⟨a,y,L,M,N⟩:=e.all h _ h0 (B h m0);obtain⟨b,z,O,P,Q⟩:=e.all j _ h1 (B j m1);obtain⟨c,A,S,T,W⟩:=e.all k _ h2 (B k m2);rw[<-Y]at y;rw[<-Z]at z;rw[<-e2]at A;have H:=xS (base:=base) (w:=q) (ts:=[a,b,c]) (n:=3) rfl (by omega) (I.iP (by simp[M,P,T])) (by simp[I.a8];exact λG D=>D.elim (N G) (λD=>D.elim (Q G) (W G))) (e.ub uS);refine zh (V:=q.alloc (.cells ([a,b,c].flatMap I.c).toArray aH)) (v:=.slice (some (ad q.heap.size)) 3 3) C (by obtain⟨_,op,_,_,_,_⟩:=o;simp only at C;subst C;simp[Env.eI,Op.operands,Env.val,y,z,A]) ?_ ?_
 .rw [show(#[((0:Nat),Operand.tmp E),(1,.tmp F),(2,.tmp t2)].map λp=>(p.1,K.ev p.2))=#[((0:Nat),a.v),(1,b.v),(2,c.v)]by simp[jB y,jB z,jB A]];exact X8 a b c q
 .rw [aa];exact e.step (Fr.alloc _ _ _) hd hs ⟨⟨some (ad q.heap.size),3,3⟩,[a,b,c],rfl,by simp[I.aq,L,O,S],H.1,H.2⟩
def XZ{ty:aD}{h:List Nat}(i d y z A B C D E F:Nat){Y Z t2 t3 t4 t5 t6 t7:Nat}{x0 x1 x2 x3 x4 x5 x6 x7:Rx}(hs:(dn Xa Xb Xc Xs)[i]? =some (.ls [x0,x1,x2,x3,x4,x5,x6,x7]))(h0:(dn Xa Xb Xc Xs)[y]? =some (.tr x0))(h1:(dn Xa Xb Xc Xs)[z]? =some (.tr x1))(h2:(dn Xa Xb Xc Xs)[A]? =some (.tr x2))(h3:(dn Xa Xb Xc Xs)[B]? =some (.tr x3))(h4:(dn Xa Xb Xc Xs)[C]? =some (.tr x4))(h5:(dn Xa Xb Xc Xs)[D]? =some (.tr x5))(h6:(dn Xa Xb Xc Xs)[E]? =some (.tr x6))(h7:(dn Xa Xb Xc Xs)[F]? =some (.tr x7))(m0:y∈h)(m1:z∈h)(m2:A∈h)(m3:B∈h)(m4:C∈h)(m5:D∈h)(m6:E∈h)(m7:F∈h)(hd:d=c' i:=by rfl)(e0:Y=c' y:=by rfl)(e1:Z=c' z:=by rfl)(e2:t2=c' A:=by rfl)(e3:t3=c' B:=by rfl)(e4:t4=c' C:=by rfl)(e5:t5=c' D:=by rfl)(e6:t6=c' E:=by rfl)(e7:t7=c' F:=by rfl):
  iv w0 base kk Xa Xb Xc Xs i (.buildSlice cY 8 #[(0,.tmp Y),(1,.tmp Z),(2,.tmp t2),(3,.tmp t3),(4,.tmp t4),(5,.tmp t5),(6,.tmp t6),(7,.tmp t7)],some d,ty,h):=by
 intro ae aa H o P ac Q hi j e;obtain⟨a,K,ab,a3,a4⟩:=e.all y _ h0 (j y m0);obtain⟨b,L,b2,b3,b4⟩:=e.all z _ h1 (j z m1);obtain⟨c,M,c2,c3,c4⟩:=e.all A _ h2 (j A m2);obtain⟨G,S,q2,q3,q4⟩:=e.all B _ h3 (j B m3);obtain⟨x,N,f2,f3,f4⟩:=e.all C _ h4 (j C m4);obtain⟨g,O,g2,g3,g4⟩:=e.all D _ h5 (j D m5);obtain⟨r,T,r2,r3,r4⟩:=e.all E _ h6 (j E m6);obtain⟨s,W,s2,s3,s4⟩:=e.all F _ h7 (j F m7);rw[<-e0]at K;rw[<-e1]at L;rw[<-e2]at M;rw[<-e3]at S;rw[<-e4]at N;rw[<-e5]at O;rw[<-e6]at T;rw[<-e7]at W;have hm:=xS (base:=base) (w:=H) (ts:=[a,b,c,G,x,g,r,s]) (n:=8) rfl (by omega) (I.iP (by simp[a3,b3,c3,q3,f3,g3,r3,s3])) (by
  intro q hz;obtain⟨t,Q,k⟩:=I.bK.1 hz;clear hz;simp only[aE,aZ,a2]at Q;rcases Q with rfl|rfl|rfl|rfl|rfl|rfl|rfl|rfl
  .exact a4 q k
  .exact b4 q k
  .exact c4 q k
  .exact q4 q k
  .exact f4 q k
  .exact g4 q k
  .exact r4 q k
  .exact s4 q k) (e.ub uS)
 refine zh (V:=H.alloc (.cells ([a,b,c,G,x,g,r,s].flatMap I.c).toArray aH)) (v:=.slice (some (ad H.heap.size)) 8 8) P (by obtain⟨_,op,_,_,_,_⟩:=o;simp only at P;subst P;simp[Env.eI,Op.operands,Env.val,K,L,M,S,N,O,T,W]) ?_ ?_
 .rw [show(#[((0:Nat),Operand.tmp Y),(1,.tmp Z),(2,.tmp t2),(3,.tmp t3),(4,.tmp t4),(5,.tmp t5),(6,.tmp t6),(7,.tmp t7)].map λp=>(p.1,aa.ev p.2))=#[((0:Nat),a.v),(1,b.v),(2,c.v),(3,G.v),(4,x.v),(5,g.v),(6,r.v),(7,s.v)]by simp[jB K,jB L,jB M,jB S,jB N,jB O,jB T,jB W]];exact X9 a b c G x g r s H
 .rw [ac];exact e.step (Fr.alloc _ _ _) hd hs ⟨⟨some (ad H.heap.size),8,8⟩,[a,b,c,G,x,g,r,s],rfl,by simp[I.aq,ab,b2,c2,q2,f2,g2,r2,s2],hm.1,hm.2⟩
end
def YP{o:Oper}{k:Int}{t:Nat}{s:Sl}{E:Env}{w:J}{K:Env->J->Prop}(B:k=3\/k=4\/k=5\/k=6\/k=7)(h:o.op=.build aH #[(0,.const (.int .i64 k)),(3,.tmp t)])(j:E.get? t=some s.v)(y:K (E.put o.dst (.agg #[.i k,.int .u8 0,.int .u8 0,s.v])) w):iV U o E w K:=by
 obtain⟨dst,op,d,pos,after,guard⟩:=o;simp only at h;subst h;show gA U _ E (λv _=>K (E.put dst v) w);have A:E.eI ⟨dst,.build aH #[(0,.const (.int .i64 k)),(3,.tmp t)],d,pos,after,guard⟩=true:=by simp[Env.eI,Op.operands,Env.val,j]
 unfold gA;rw[A];have q:execOp E.ev ⟨dst,.build aH #[(0,.const (.int .i64 k)),(3,.tmp t)],d,pos,after,guard⟩=execOp (λe=>match e with |.const v=>v|_=>s.v) ⟨dst,.build aH #[(0,.const (.int .i64 k)),(3,.tmp t)],d,pos,after,guard⟩:=by
  have:E.ev (.tmp t)=s.v:=jB j;have z:E.ev (.const (.int .i64 k))=.int .i64 k:=by simp[Env.ev,Env.val]
  simp only[execOp,List.map_toArray,iQ,List.map_nil,this,z]
 rw[q];have x:qF U (execOp (λe=>match e with |.const v=>v|_=>s.v) ⟨dst,.build aH #[(0,.const (.int .i64 k)),(3,.tmp t)],d,pos,after,guard⟩)=some (.value (.agg #[.i k,.int .u8 0,.int .u8 0,s.v])):=by kernel_rfl
 rw[x];exact y
def vJ{ty:aD}{q:List Nat}(k:Int)(E:k=3\/k=4\/k=5\/k=6\/k=7)(i d j:Nat){t:Nat}{l:List Rx}(G:(dn Xa Xb Xc Xs)[i]? =some (.tr (.mk k 0 0 l)))(B:(dn Xa Xb Xc Xs)[j]? =some (.ls l))(m:j∈q)(hd:d=c' i)(A:t=c' j):iv w0 base kk Xa Xb Xc Xs i (.build aH #[(0,.const (.int .i64 k)),(3,.tmp t)],some d,ty,q):=by
 intro L K O o F D N M C e;obtain⟨s,H,h,x,y,z⟩:=e.all j _ B (C j m);rw[<-A]at h;refine YP E F h ?_;rw[D];refine e.step (Fr.refl _ _) hd G ⟨.mk k 0 0 s H,rfl,by rw[<-x];rfl,?_,λb w=>z b ?_⟩
 .have:=dd.1 y;unfold I.P;exact this
 .unfold I.fp at w;unfold bE I.fp;exact w
def vK{ty:aD}{e:List Nat}(i d j:Nat){t:Nat}{l:List Rx}(q:(dn Xa Xb Xc Xs)[i]? =some (.tr (.mk 3 0 0 l)))(k:(dn Xa Xb Xc Xs)[j]? =some (.ls l))(m:j∈e)(hd:d=c' i:=by rfl)(h:t=c' j:=by rfl):iv w0 base kk Xa Xb Xc Xs i (.build aH #[(0,.const (.int .i64 3)),(3,.tmp t)],some d,ty,e):=vJ 3 (by omega) i d j q k m hd h
def N'{ty:aD}{e:List Nat}(i d j:Nat){t:Nat}{l:List Rx}(q:(dn Xa Xb Xc Xs)[i]? =some (.tr (.mk 4 0 0 l)))(k:(dn Xa Xb Xc Xs)[j]? =some (.ls l))(m:j∈e)(hd:d=c' i:=by rfl)(h:t=c' j:=by rfl):iv w0 base kk Xa Xb Xc Xs i (.build aH #[(0,.const (.int .i64 4)),(3,.tmp t)],some d,ty,e):=vJ 4 (by omega) i d j q k m hd h
def XW{ty:aD}{e:List Nat}(i d j:Nat){t:Nat}{l:List Rx}(q:(dn Xa Xb Xc Xs)[i]? =some (.tr (.mk 5 0 0 l)))(k:(dn Xa Xb Xc Xs)[j]? =some (.ls l))(m:j∈e)(hd:d=c' i:=by rfl)(h:t=c' j:=by rfl):iv w0 base kk Xa Xb Xc Xs i (.build aH #[(0,.const (.int .i64 5)),(3,.tmp t)],some d,ty,e):=vJ 5 (by omega) i d j q k m hd h
def Oa{ty:aD}{e:List Nat}(i d j:Nat){t:Nat}{l:List Rx}(q:(dn Xa Xb Xc Xs)[i]? =some (.tr (.mk 6 0 0 l)))(k:(dn Xa Xb Xc Xs)[j]? =some (.ls l))(m:j∈e)(hd:d=c' i:=by rfl)(h:t=c' j:=by rfl):iv w0 base kk Xa Xb Xc Xs i (.build aH #[(0,.const (.int .i64 6)),(3,.tmp t)],some d,ty,e):=vJ 6 (by omega) i d j q k m hd h
def XX{ty:aD}{e:List Nat}(i d j:Nat){t:Nat}{l:List Rx}(q:(dn Xa Xb Xc Xs)[i]? =some (.tr (.mk 7 0 0 l)))(k:(dn Xa Xb Xc Xs)[j]? =some (.ls l))(m:j∈e)(hd:d=c' i:=by rfl)(h:t=c' j:=by rfl):iv w0 base kk Xa Xb Xc Xs i (.build aH #[(0,.const (.int .i64 7)),(3,.tmp t)],some d,ty,e):=vJ 7 (by omega) i d j q k m hd h
def X2{ty:aD}{k:List Nat}(i d j:Nat){t:Nat}{l:List Rx}(D:(dn Xa Xb Xc Xs)[i]? =some (.ls l))(z:(dn Xa Xb Xc Xs)[j]? =some (.ls l))(m:j∈k)(hd:d=c' i:=by rfl)(y:t=c' j:=by rfl):iv w0 base kk Xa Xb Xc Xs i (.assign (.tmp t),some d,ty,k):=by intro G F K o C B I H A e;obtain⟨s,E,h,q,w,x⟩:=e.all j _ z (A j m);rw[<-y]at h;refine oe (.inr C) h ?_;rw[B];exact e.step (Fr.refl _ _) hd D ⟨s,E,rfl,q,w,x⟩
def X1{E:List Nat}(L:base<=w0.heap.size)(i d:Nat)(P:(dn Xa Xb Xc Xs)[i]? =some (.tr eo))(hd:d=c' i:=by rfl):iv w0 base kk Xa Xb Xc Xs i (.call ⟨.value (.func nT),#[],#[]⟩,some d,aH,E):=by
 intro j e D o x w y S Q q;obtain⟨dst,op,T,pos,after,guard⟩:=o;simp only at x w y;subst x;subst w;subst y;have M:e.eI ⟨some d,.call ⟨.value (.func nT),#[],#[]⟩,aH,pos,after,guard⟩=true:=by simp[Env.eI,Op.operands,Call.operands,Env.val]
 have N:gI U nT=true:=by kernel_rfl
 have O:calm U ⟨some d,.call ⟨.value (.func nT),#[],#[]⟩,aH,pos,after,guard⟩=false:=rfl;unfold iV;rw[O,cond_false];unfold g0;dsimp only;rw[M,N];simp only[List.map_toArray,List.map_nil,cond_true];refine(show pT U nT #[] (zeroOf U aH) D (λv h=>JT w0 base kk Xa Xb Xc Xs (db j i) (e.put (some d) v) h)from ?_);refine(AJ D).mono ?_;rintro _ h ⟨⟨t,rfl,G,H,I⟩,f⟩;have F:mQ (zeroOf U aH) (λv=>Ending.returned t.v=ae v/\JT w0 base kk Xa Xb Xc Xs (db j i) (e.put (some d) v) h)=∃z:Int,∃A:Int,∃B:Int,∃C:Sl,Ending.returned t.v=ae (.agg #[.int .i64 z,.int .u8 A,.int .u8 B,C.v])/\JT w0 base kk Xa Xb Xc Xs (db j i) (e.put (some d) (.agg #[.int .i64 z,.int .u8 A,.int .u8 B,C.v])) h:=by kernel_rfl
 rw[F];exact⟨t.k,t.lo.toNat,t.hi.toNat,t.s,rfl,q.step f hd P ⟨t,rfl,G,H,λb K=>bp (q.ub L) (I b K)⟩⟩
def Pn:List (Op×Option Nat×aD×List Nat):=[(.load aH (.tmp 5),some 39,aH,[]),
 (.load aH (.tmp 5),some 40,aH,[]),
 (.load aH (.tmp 6),some 41,aH,[]),
 (.buildSlice cY 2 #[(0,.tmp 40),(1,.tmp 41)],some 42,cY,[1,2]),
 (.build aH #[(0,.const (.int .i64 3)),(3,.tmp 42)],some 43,aH,[3]),
 (.load aH (.tmp 5),some 44,aH,[]),
 (.load aH (.tmp 6),some 45,aH,[]),
 (.load aH (.tmp 7),some 46,aH,[]),
 (.buildSlice cY 3 #[(0,.tmp 44),(1,.tmp 45),(2,.tmp 46)],some 47,cY,[5,6,7]),
 (.build aH #[(0,.const (.int .i64 4)),(3,.tmp 47)],some 48,aH,[8]),
 (.load aH (.tmp 8),some 49,aH,[]),
 (.load aH (.tmp 8),some 50,aH,[]),
 (.load aH (.tmp 6),some 51,aH,[]),
 (.buildSlice cY 2 #[(0,.tmp 50),(1,.tmp 51)],some 52,cY,[11,12]),
 (.build aH #[(0,.const (.int .i64 3)),(3,.tmp 52)],some 53,aH,[13]),
 (.load aH (.tmp 5),some 54,aH,[]),
 (.load aH (.tmp 6),some 55,aH,[]),
 (.buildSlice cY 2 #[(0,.tmp 54),(1,.tmp 55)],some 56,cY,[15,16]),
 (.build aH #[(0,.const (.int .i64 3)),(3,.tmp 56)],some 57,aH,[17]),
 (.buildSlice cY 1 #[(0,.tmp 57)],some 58,cY,[18]),
 (.build aH #[(0,.const (.int .i64 6)),(3,.tmp 58)],some 59,aH,[19]),
 (.load aH (.tmp 6),some 60,aH,[]),
 (.load aH (.tmp 5),some 61,aH,[]),
 (.load aH (.tmp 7),some 62,aH,[]),
 (.buildSlice cY 2 #[(0,.tmp 61),(1,.tmp 62)],some 63,cY,[22,23]),
 (.build aH #[(0,.const (.int .i64 4)),(3,.tmp 63)],some 64,aH,[24]),
 (.buildSlice cY 1 #[(0,.tmp 64)],some 65,cY,[25]),
 (.build aH #[(0,.const (.int .i64 7)),(3,.tmp 65)],some 66,aH,[26]),
 (.buildSlice cY 2 #[(0,.tmp 60),(1,.tmp 66)],some 67,cY,[21,27]),
 (.build aH #[(0,.const (.int .i64 3)),(3,.tmp 67)],some 68,aH,[28]),
 (.load aH (.tmp 6),some 69,aH,[]),
 (.buildSlice cY 1 #[(0,.tmp 69)],some 70,cY,[30]),
 (.build aH #[(0,.const (.int .i64 6)),(3,.tmp 70)],some 71,aH,[31]),
 (.load aH (.tmp 5),some 72,aH,[]),
 (.call ⟨.value (.func nT),#[],#[]⟩,some 73,aH,[]),
 (.buildSlice cY 2 #[(0,.tmp 72),(1,.tmp 73)],some 74,cY,[33,34]),
 (.build aH #[(0,.const (.int .i64 3)),(3,.tmp 74)],some 75,aH,[35]),
 (.buildSlice cY 2 #[(0,.tmp 71),(1,.tmp 75)],some 76,cY,[32,36]),
 (.build aH #[(0,.const (.int .i64 5)),(3,.tmp 76)],some 77,aH,[37]),
 (.buildSlice cY 8 #[(0,.tmp 39),(1,.tmp 43),(2,.tmp 48),(3,.tmp 49),(4,.tmp 53),(5,.tmp 59),(6,.tmp 68),(7,.tmp 77)],some 78,cY,[0,4,9,10,14,20,29,38]),
 (.assign (.tmp 78),some 9,cY,[39,34,0,1,2,3,4,5,6,7,8,9,10,11,12,13,14,15,16,17,18,19,20,21,22,23,24,25,26,27,28,29,30,31,32,33,34,35,36,37,38,39])]
def X4(d:base<=w0.heap.size):allI (wF U (JT w0 base kk Xa Xb Xc Xs)) Pn 0:=
 ⟨(s8 0 39 rfl),
  (s8 1 40 rfl),
  (s9 2 41 rfl),
  (qM d 3 42 1 2 rfl rfl rfl (by simp) (by simp)),
  (vK 4 43 3 rfl rfl (by simp)),
  (s8 5 44 rfl),
  (s9 6 45 rfl),
  (Ob 7 46 rfl),
  (XY d 8 47 5 6 7 rfl rfl rfl rfl (by simp) (by simp) (by simp)),
  (N' 9 48 8 rfl rfl (by simp)),
  (Od 10 49 rfl),
  (Od 11 50 rfl),
  (s9 12 51 rfl),
  (qM d 13 52 11 12 rfl rfl rfl (by simp) (by simp)),
  (vK 14 53 13 rfl rfl (by simp)),
  (s8 15 54 rfl),
  (s9 16 55 rfl),
  (qM d 17 56 15 16 rfl rfl rfl (by simp) (by simp)),
  (vK 18 57 17 rfl rfl (by simp)),
  (D9 d 19 58 18 rfl rfl (by simp)),
  (Oa 20 59 19 rfl rfl (by simp)),
  (s9 21 60 rfl),
  (s8 22 61 rfl),
  (Ob 23 62 rfl),
  (qM d 24 63 22 23 rfl rfl rfl (by simp) (by simp)),
  (N' 25 64 24 rfl rfl (by simp)),
  (D9 d 26 65 25 rfl rfl (by simp)),
  (XX 27 66 26 rfl rfl (by simp)),
  (qM d 28 67 21 27 rfl rfl rfl (by simp) (by simp)),
  (vK 29 68 28 rfl rfl (by simp)),
  (s9 30 69 rfl),
  (D9 d 31 70 30 rfl rfl (by simp)),
  (Oa 32 71 31 rfl rfl (by simp)),
  (s8 33 72 rfl),
  (X1 d 34 73 rfl),
  (qM d 35 74 33 34 rfl rfl rfl (by simp) (by simp)),
  (vK 36 75 35 rfl rfl (by simp)),
  (qM d 37 76 32 36 rfl rfl rfl (by simp) (by simp)),
  (XW 38 77 37 rfl rfl (by simp)),
  (XZ d 39 78 0 4 9 10 14 20 29 38 rfl rfl rfl rfl rfl rfl rfl rfl rfl (by simp) (by simp) (by simp) (by simp) (by simp) (by simp) (by simp) (by simp)),
  (X2 40 9 39 rfl rfl (by simp)),trivial⟩
end
def RI(n m:Int)(w:J)(h:1<=m)(d:dx n):aj U vb #[.i n,.i m] w λr e=>r=ae (.i (gv n m))/\ah w e:=(FH n m w h d).mono λr e d=>⟨d.1,d.2▸Fr.refl _ _⟩
def FP(d:I):List I:=[l9 2 97 97,l9 2 98 98,l9 2 0 0,l9 2 97 98,l9 1 0 0,d]
def Au(e:I)(h:e.rx=eo){i:Nat}(hi:i<6):∃t,(FP e)[i]? =some t/\t.rx=eH i/\(t=e\/∀d:J,t.P d/\∀b,¬b∈t.fp):=by
 have:i=0\/i=1\/i=2\/i=3\/i=4\/i=5:=by omega
 rcases this with rfl|rfl|rfl|rfl|rfl|rfl
 .exact ⟨_,rfl,rfl,.inr λd=>⟨qi _ _ _ d,λb=>qj⟩⟩
 .exact ⟨_,rfl,rfl,.inr λd=>⟨qi _ _ _ d,λb=>qj⟩⟩
 .exact ⟨_,rfl,rfl,.inr λd=>⟨qi _ _ _ d,λb=>qj⟩⟩
 .exact ⟨_,rfl,rfl,.inr λd=>⟨qi _ _ _ d,λb=>qj⟩⟩
 .exact ⟨_,rfl,rfl,.inr λd=>⟨qi _ _ _ d,λb=>qj⟩⟩
 .exact ⟨e,rfl,h,.inl rfl⟩
def TY(a b c:Rx){i:Nat}(hi:i<8):[a,.mk 3 0 0 [a,b],.mk 4 0 0 [a,b,c],.mk 7 0 0 [a],.mk 3 0 0 [.mk 7 0 0 [a],b],.mk 6 0 0 [.mk 3 0 0 [a,b]],.mk 3 0 0 [b,.mk 7 0 0 [.mk 4 0 0 [a,c]]],.mk 5 0 0 [.mk 6 0 0 [b],.mk 3 0 0 [a,eo]]][i]? =some (BD a b c i):=by
 have:i=0\/i=1\/i=2\/i=3\/i=4\/i=5\/i=6\/i=7:=by omega
 rcases this with rfl|rfl|rfl|rfl|rfl|rfl|rfl|rfl<;>rfl
def zn(k m:Nat)(d:0<m):eY (k:Int) (m:Int)=((k%m:Nat):Int):=by rw[Int.tmod_eq_emod_of_nonneg (by omega)];omega
def EF(k m:Nat)(h:k<=1048576):aG .i64 (eP (k:Int) (m:Int))=((k / m:Nat):Int):=by
 have d:eP (k:Int) (m:Int)=((k / m:Nat):Int):=by rw[Int.tdiv_eq_ediv_of_nonneg (by omega)];rfl
 have e:k / m<=k:=Nat.div_le_self k m;rw[d];generalize k / m=q at e;rw[bm _ (by omega)]
section
variable {w w24:J} {R:aC} {K:Nat}
def Zu(E:K<=1048576){s:Sl}{ts:List I}{V:J}(x:I.aq ts=[eH (K%6),.mk 3 0 0 [eH (K%6),eH (K / 6%6)],.mk 4 0 0 [eH (K%6),eH (K / 6%6),eH (K / 36%6)],.mk 7 0 0 [eH (K%6)],.mk 3 0 0 [.mk 7 0 0 [eH (K%6)],eH (K / 6%6)],.mk 6 0 0 [.mk 3 0 0 [eH (K%6),eH (K / 6%6)]],.mk 3 0 0 [eH (K / 6%6),.mk 7 0 0 [.mk 4 0 0 [eH (K%6),eH (K / 36%6)]]],.mk 5 0 0 [.mk 6 0 0 [eH (K / 6%6)],.mk 3 0 0 [eH (K%6),eo]]])(e:(bE s ts).P V)(f:ah w V):uz.T9 s (K:Int) V λr V=>r=ae (.string (ba (ng K)))/\ah w V:=by
 have N:=I.cb (dd.1 e).1;have M:ts.length=8:=by have:=congrArg List.length x;rw[I.fi,mb]at this;simpa using this
 show(0:Int)<=eY (aG .i64 (eP (K:Int) ((216:Nat):Int))) ((8:Nat):Int)/\eY (aG .i64 (eP (K:Int) ((216:Nat):Int))) ((8:Nat):Int)<((s.n:Nat):Int)/\dJ s.a λp=>iJ V (p.add (a1 (eY (aG .i64 (eP (K:Int) ((216:Nat):Int))) ((8:Nat):Int)) *4)) _;rw[EF K 216 E,zn _ 8 (by omega)];have F:K / 216%8<8:=Nat.mod_lt _ (by omega);have d:ts[K / 216%8]? =some (ts[K / 216%8]'(by omega)):=a5 (by omega);generalize ts[K / 216%8]'(by omega)=t at d;have z:t.rx=kI K:=by have y:=TY (eH (K%6)) (eH (K / 6%6)) (eH (K / 36%6)) F;rw[<-x,I.fi,List.getElem?_map,d]at y;exact Option.some.inj y
 obtain⟨j,k,h,q⟩:=Zv K;rw[<-z]at j k h q;have G:t.P V:=(dd.1 e).2.get d;refine⟨by omega,by omega,I.a3 (dd.1 e).1 d λp e c=>⟨_,_,_,_,c.c0,c.c1,c.c2,c.c3,(GA t V (by rw[<-I.dR];exact k) j G).mono ?_⟩⟩;rintro _ L ⟨⟨u,rfl,A,H,_⟩,C⟩;rw[<-A]at h q;refine⟨_,_,_,u.s,rfl,(Gd u 0 L (by rw[<-I.dR];omega) (by omega) h H).mono ?_⟩;rintro _ O ⟨rfl,D⟩;refine⟨_,rfl,?_,(f.gE C).gE D⟩;have B:cy 0 u.rx (a6 u.rx)=a6 u.rx:=by unfold cy;rw[ab (by omega)]
 rw[B,A,z];rfl
end
def QK{s:Sl}{k:Int}{w:J}{R e:aC}(d:uz.T9 s k w R)(E:∀r h,R r h->e r h):uz.T9 s k w e:=
 ⟨d.1,d.2.1,o3 d.2.2 λp ⟨a,b,c,j,x,y,z,A,C⟩=>⟨a,b,c,j,x,y,z,A,C.mono λr H ⟨q,f,g,i,D,G⟩=>⟨q,f,g,i,D,G.mono λr I ⟨t,F,B⟩=>⟨t,F,E _ _ B⟩⟩⟩⟩
def RE(n:Int)(hn:dx n)(w:J):aj U JN #[.i n] w λr x=>(∃ak:Nat,r=ae (.string (ba (ng ak))))/\ah w x:=by
 have hr:=ky n 1048576 (by omega);obtain⟨K,hK⟩:∃K:Nat,gv n 1048576=(K:Int):=⟨(gv n 1048576).toNat,by omega⟩;have D:K<=1048576:=by omega
 have ab:O F0 w w [] []:=bO [] (by simp);refine uz.ok n w _ (ab.call (RI n 1048576 w (by omega) hn) ?_);rintro _ w1 rfl H;refine⟨_,rfl,H.w5 (AJ w1) ?_⟩;rintro _ G ⟨j,rfl,F,al,Y⟩ _ F2;have H2:=F2.rd (.tree j) al λb q=>Y b (a4.1 q);rw[hK];have T:=zn K 6 (by omega);have S:=EF K 6 D;have Q:=EF K 36 D;have W:=zn (K / 6) 6 (by omega);have V:=zn (K / 36) 6 (by omega);have c6:((6:Nat):Int)=6:=rfl;have ai:((36:Nat):Int)=36:=rfl;rw[c6]at T S W V;rw[ai]at Q;rw[T,S,Q,W,V];obtain⟨z,ga,ra,xa⟩:=Au j F (i:=K%6) (Nat.mod_lt _ (by omega));obtain⟨tb,gb,rb,xb⟩:=Au j F (i:=K / 6%6) (Nat.mod_lt _ (by omega));obtain⟨tc,gc,rc,xc⟩:=Au j F (i:=K / 36%6) (Nat.mod_lt _ (by omega));have la:K%6<6:=Nat.mod_lt _ (by omega);have lb:K / 6%6<6:=Nat.mod_lt _ (by omega);have lc:K / 36%6<6:=Nat.mod_lt _ (by omega);have C:∀t:I,(t=j\/∀w:J,t.P w/\∀b,¬b∈t.fp)->(∀x:J,j.P x->t.P x)/\∀b∈t.fp,w.heap.size<=b:=λt h=>by
  rcases h with rfl|h
  .exact ⟨λ_ h=>h,λb q=>bp H.fr.size (Y b q)⟩
  .exact ⟨λx _=>(h x).1,λb q=>((h w).2 b q).elim⟩
 refine⟨_,_,_,j.s,rfl,H2.eK (n:=6) (sz:=4) (cs:=(FP j).flatMap I.c) rfl (by decide) λw3 M=>?_⟩;refine⟨by omega,by omega,I.a3 (s:=⟨some (ad G.heap.size),6,6⟩) (M.get 0:aK _ _ _ _ _).a7 ga λp hp c=>?_⟩;refine⟨_,_,_,_,c.c0,c.c1,c.c2,c.c3,M.nw λw4 _ H4=>H4.jQ 1 rfl λw8 N=>?_⟩;refine⟨by omega,by omega,I.a3 (s:=⟨some (ad G.heap.size),6,6⟩) (N.get 0:aK _ _ _ _ _).a7 gb λp hp c=>?_⟩;refine⟨_,_,_,_,c.c0,c.c1,c.c2,c.c3,N.nw λw9 _ H9=>H9.jQ 2 rfl λam L=>?_⟩;refine⟨by omega,by omega,I.a3 (s:=⟨some (ad G.heap.size),6,6⟩) (L.get 0:aK _ _ _ _ _).a7 gc λp hp c=>?_⟩;refine⟨_,_,_,_,c.c0,c.c1,c.c2,c.c3,L.nw λar _ ac=>ac.jQ 3 rfl λaa y=>?_⟩;refine⟨_,_,_,z.s,y.ld 1 0,y.ld 1 1,y.ld 1 2,y.ld 1 3,y.eK (n:=1) (sz:=4) (cs:=[z].flatMap I.c) rfl (by decide) λan af=>af.nw λau _ ag=>ag.jQ 5 rfl λd e=>?_⟩;have A:=C z xa;have pb:=C tb xb;have pc:=C tc xc;have ps:(I.mk 7 0 0 ⟨some (ad aa.heap.size),1,1⟩ [z]).P d:=by unfold I.P;exact⟨(e.get 4:aK _ _ _ _ _).a7,I.iP (by simp;exact A.1 d (e.getD 0))⟩
 have Z:ah w d:=e.fr;refine Iv Pn (by kernel_rfl) (JT d w.heap.size (K:Int) (eH (K%6)) (eH (K / 6%6)) (eH (K / 36%6)) (.mk 7 0 0 [eH (K%6)])) ?_ (X4 Z.size) ?_
 .refine ⟨Fr.drew _ _,rfl,?_,?_,?_,?_,λi sp hs E=>by cases E⟩
  .exact ju.cd (w:=d) ⟨w3.heap.size,z,rfl,e.ob 1,ra,A.1 d (e.getD 0),A.2⟩ (Fr.drew _ _)
  .exact ju.cd (w:=d) ⟨w8.heap.size,tb,rfl,e.ob 2,rb,pb.1 d (e.getD 0),pb.2⟩ (Fr.drew _ _)
  .exact ju.cd (w:=d) ⟨am.heap.size,tc,rfl,e.ob 3,rc,pc.1 d (e.getD 0),pc.2⟩ (Fr.drew _ _)
  .refine ju.cd (w:=d) ⟨an.heap.size,.mk 7 0 0 ⟨some (ad aa.heap.size),1,1⟩ [z],rfl,e.ob 5,?_,ps,Dt (λb q=>?_) A.2⟩ (Fr.drew _ _)
   .rw [<-ra];rfl
   .simp only[aN,aE,aZ,a2]at q;rw[q];exact y.fr.size
 .intro ap ao x E B;obtain⟨s,ts,h1,h2,h3,_⟩:=B.all 40 _ rfl (E 40 (by decide));refine⟨s,(K:Int),h1,B.k,?_⟩;refine QK (Zu D h2 h3 (Z.gE B.fr)) λr aq h=>⟨⟨K,h.1⟩,h.2⟩
def xM{w:J}{s:Sl}{l:List Nd}(e:GP w s l):O F0 w w [] [.gr s l]:=bO _ (by intro h d;simp only[aE,aZ,a2]at d;subst d;exact bc.2 e)
abbrev nX(s:Sl)(l:List Int):En:=.row bn 1 s (l.map ct)
def nY{w:J}{s:Sl}{l:List Int}(d:aK w bn 1 s (l.map ct)):bW w s l:=d.yP
def qz{w:J}{s:Sl}{l:List Int}(d:aK w bn 1 s (l.map ct)):s.n=l.length:=by have:=d.len;simp at this;omega
def AE{w:J}{s:Sl}{l:List Nd}(H:GP w s l)(t:aU)(n:Int)(Z:dx n)(Y:l.length<=eF):
  aj U Ka #[s.v,dq t,.i n] w λr F=>(∃h:Int,r=ae (.i h)/\-1<=h/\h<(l.length:Int))/\ah w F:=by
 have hs:=h6 H;unfold eF at Y;have loop:∀(m i:Nat) (q:Sl) (ks:List Int) (e:Nat) (z:J),i+m=l.length->ks.length<=i->(∀E∈ks,0<=E/\E<(l.length:Int))->O F0 w z [.g e,nX q ks] [.gr s l]->
   qc.a0 s n e t.k t.n t.x q (i:Int) z λr F=>(∃h:Int,r=ae (.i h)/\-1<=h/\h<(l.length:Int))/\ah w F:=by
  intro m;induction m with
  |zero=>
   intro i q ks e z V W D y;have hlen:=qz (y.get 1);refine qc.bJ _ _ _ _ _ _ _ _ _ _ (aV (aP (by omega)) (ax (λQ=>⟨⟨_,rfl,by omega,by omega⟩,y.fr⟩) (λQ=>y.av (jG n _ z (by omega) Z) ?_)));have hr:=ky n ((q.n:Nat):Int) (by omega);generalize gv n ((q.n:Nat):Int)=h at hr;rintro _ G rfl A;obtain⟨j,rfl⟩:∃j:Nat,h=(j:Int):=⟨h.toNat,by omega⟩;have B:ks[j]? =some (ks[j]'(by omega)):=a5 (by omega);have C:=D _ (aB B);exact⟨_,rfl,by omega,by omega,(nY (A.get 1)).cell B (by omega) λp I S=>⟨_,S,⟨⟨_,rfl,by omega,by omega⟩,A.fr⟩⟩⟩
  |succ m K=>
   intro i q ks e z V W D y;have B:l[i]? =some (l[i]'(by omega)):=a5 (by omega);generalize l[i]'(by omega)=d at B;have hlen:=qz (y.get 1);refine qc.bJ _ _ _ _ _ _ _ _ _ _ (aT (aM (by omega)) (e4 (bc.1 (y.getD 0)) rfl B λp I _=>y.af λG A=>?_));have c:=BI (bc.1 (A.getD 0)) B I (rfl:((i:Int))=(i:Int));refine⟨_,_,_,c.s0,c.s1,c.s2,mg (a:=d.x.st) (b:=t) (λT=>?_) (λT=>?_)⟩
   .refine A.iA 1 rU rfl (λL M P=>?_) (by omega);show qc.a0 s n e t.k t.n t.x L (aG .i64 ((i:Int)+1)) M _;rw[bw _ (by omega)];refine K (i+1) L (ks++[(i:Int)]) e M (by omega) (by simp;omega) (λE C=>?_) (by rw[nX,dX];exact P);rcases aL.1 C with C|C
    .exact D E C
    .simp only[aE,aZ,a2]at C;omega
   .show qc.a0 s n e t.k t.n t.x q (aG .i64 ((i:Int)+1)) G _;rw[bw _ (by omega)];exact K (i+1) q ks e G (by omega) (by omega) D A
 exact qc.au _ _ _ _ _ w _ ((xM H).ay λe z N=>loop l.length 0 ⟨none,0,0⟩ [] e z (by omega) (by simp) (by simp) (N.h' bn 1))
def Sk{w:J}{s:Sl}{l:List Nd}(K:GP w s l)(op:Int)(x:Nat)(ac n:Int)(F:x<l.length)(E:dx n):
  aj U Kp #[s.v,.i op,.i (x:Int),.i ac,.i n] w λr G=>(∃t:aU,r=ae (dq t))/\ah w G:=by
 have hs:=h6 K;have N:l[x]? =some (l[x]'F):=a5 F;generalize l[x]'F=d at N;refine Bl.au _ _ _ _ _ w _ ((xM K).ay λz w1 I=>e4 (bc.1 (I.getD 0)) rfl N λp hp c=>⟨_,_,_,c.s0,c.s1,c.s2,I.ay λC w2 y=>?_⟩);have ret:∀(a b c:Int) (e:J) (bs:List Nat),(∀b∈bs,En.g b∈[En.g z,.g C])->O F0 w e [.g z,.g C] [.gr s l]->loc bs e λP=>(∃t:aU,Ending.returned (.agg #[.i a,.i b,.i c])=ae (dq t))/\ah w P:=λa b c e bs hb h=>h.af (λP S=>⟨⟨⟨a,b,c⟩,rfl⟩,S.fr⟩) hb;have B:∀e,O F0 w e [.g z,.g C] [.gr s l]->Bl.aX n z 0 0 0 e λr G=>(∃t:aU,r=ae (dq t))/\ah w G:=by intro e h;refine h.av (jG n 3 e (by omega) E) ?_;rintro _ q rfl k;refine⟨_,rfl,k.av (nC _ q) ?_⟩;rintro _ H rfl A;exact⟨_,_,_,rfl,ret _ _ _ H _ (by simp) A⟩
 refine ax (λT=>y.af λe h=>h.av (jG n _ e (by omega) E) ?_) (λT=>ax (λV=>y.af λe h=>h.av (jG n 3 e (by omega) E) ?_) (λV=>ax (λW=>y.af λe h=>h.av (ff _ e) ?_) (λW=>ax (λY=>ax (λZ=>y.af λe h=>h.av (ff _ e) ?_) (λZ=>y.af λe h=>h.av (DQ d.x.st e) ?_)) (λY=>ax (λaa=>y.af λe h=>h.av (ff _ e) ?_) (λaa=>ax (λL=>aT (beq_iff_eq.2 L) (y.af λe h=>B e h)) (λL=>ax (λM=>aT (beq_iff_eq.2 M) (y.af λe h=>B e h)) (λM=>ax (λh9=>y.af λe h=>B e h) (λh9=>y.af λe h=>ret _ _ _ e _ (by simp) h))))))))
 .have hr:=ky n ((s.n:Nat):Int) (by omega);generalize gv n ((s.n:Nat):Int)=Q at hr;rintro _ q rfl k;obtain⟨j,rfl⟩:∃j:Nat,Q=(j:Int):=⟨Q.toNat,by omega⟩;have ab:l[j]? =some (l[j]'(by omega)):=a5 (by omega);exact⟨_,rfl,e4 (bc.1 (k.getD 0)) rfl ab λad hq D=>⟨_,_,_,D.s0,D.s1,D.s2,ret _ _ _ q _ (by simp) k⟩⟩
 .rintro _ q rfl k;refine⟨_,rfl,k.av (ff _ q) ?_⟩;rintro _ H rfl A;exact⟨_,_,_,rfl,ret _ _ _ H _ (by simp) A⟩
 .rintro _ q rfl k;exact⟨_,_,_,rfl,ret _ _ _ q _ (by simp) k⟩
 .rintro _ q rfl k;exact⟨_,_,_,rfl,ret _ _ _ q _ (by simp) k⟩
 .rintro _ q rfl k;exact⟨_,_,_,rfl,ret _ _ _ q _ (by simp) k⟩
 .rintro _ q rfl k;exact⟨_,_,_,rfl,ret _ _ _ q _ (by simp) k⟩
abbrev Uk(s:Sl):aa:=.agg #[s.v]
def Vs{w:J}{a b:En}(e:a.P w)(h:b.P w):O F0 w w [] [a,b]:=bO _ (by
 intro j d;simp only[aE,aZ,a2]at d;rcases d with rfl|rfl
 .exact e
 .exact h)
def Ac(w:J)(l:List Int)(r:cA)(V:J):Prop:=∃s:Sl,r=ae s.v/\aK V bn 1 s (l.map ct)/\∀b∈aN s,w.heap.size<=b
def fR(g:List Nx)(i:Nat):Bool:=match g[i]? with |some d=>ao (d.op=0)|none=>false
def EZ(g:List Nx):tF g=((List.range g.length).filter (fR g)).map λi:Nat=>(i:Int):=rfl
def TI(g:List Nx)(i:Nat):((List.range (i+1)).filter (fR g)).map (λi:Nat=>(i:Int))=((List.range i).filter (fR g)).map (λi:Nat=>(i:Int))++(if fR g i=true then[(i:Int)]else[]):=by
 rw[List.range_succ,List.filter_append,dX];congr 1;by_cases d:fR g i=true
 .simp [d]
 .simp [d]
def RG{w:J}{s:Sl}{l:List Nd}(A:GP w s l)(K:l.length<=eF):aj U Lr #[Uk s] w λr k=>Ac w (tF (xs l)) r k/\ah w k:=by
 have N:=h6 A;have L:(xs l).length=l.length:=by simp[xs]
 unfold eF at K;have loop:∀(m i e:Nat) (sl:Sl) (j:J),i+m=l.length->O F0 w j [.g e,nX sl (((List.range i).filter (fR (xs l))).map λi:Nat=>(i:Int))] [.gr s l]->qY.a0 e s sl ((s.n:Nat):Int) (i:Int) j λr k=>Ac w (tF (xs l)) r k/\ah w k:=by
  intro m;induction m with
  |zero=>
   intro i e sl j z h;have z:i=l.length:=by omega
   subst z;refine qY.bJ _ _ _ _ _ _ _ (aV (aP (by omega)) ⟨⟨sl,rfl,?_,λb I=>(h.new _ (aB (i:=1) rfl) b I).resolve_right id⟩,h.fr⟩);rw[EZ,L];exact h.get 1
  |succ m D=>
   intro i e sl j z h;have y:l[i]? =some (l[i]'(by omega)):=a5 (by omega);generalize l[i]'(by omega)=d at y;have C:fR (xs l) i=ao (d.x.op=0):=by unfold fR;rw[ou y]
   have B:=TI (xs l) i;have hlen:=qz (h.get 1);have M:((List.range i).filter (fR (xs l))).length<=i:=by have:=List.length_filter_le (fR (xs l)) (List.range i);simpa using this
   rw[mb]at hlen;refine qY.bJ _ _ _ _ _ _ _ (aT (aM (by omega)) (e4 (bc.1 (h.getD 0)) rfl y λp P c=>⟨_,c.c0,ax (λq=>?_) (λq=>?_)⟩))
   .refine h.iA 1 rU rfl (λE F H=>?_) (by omega);show qY.a0 e s E ((s.n:Nat):Int) (aG .i64 ((i:Int)+1)) F _;rw[bw _ (by omega)];refine D (i+1) e E F (by omega) ?_;rw[B,ag (by rw[C,aM q]),nX,dX];exact H
   .show qY.a0 e s sl ((s.n:Nat):Int) (aG .i64 ((i:Int)+1)) j _;rw[bw _ (by omega)];refine D (i+1) e sl j (by omega) ?_;rw[B,ab (by rw[C,aP q];simp),cP];exact h
 exact qY.au s w _ ((xM A).ay λe j G=>loop l.length 0 e ⟨none,0,0⟩ j (by omega) (G.h' bn 1))
def Ya{P:aw}{t ty e:aD}{S:aa}{sz bytes:Nat}(h:fS P t e S sz bytes){w:J}(g d E:Nat)(cur:Array aa)(T:aD){src:Sl}{cs:List aa}(q:w.heap[g]? =some (.cells cur T (0,0)))(M:br sz w src cs)(z:src.n<=d)(H:cs.length<=cur.size)(G:∀v∈cs,v.oneCell'=true):
  (Builtin.copy_ #[t,t] ty #[.slice (some ⟨g,0,none⟩) d E,src.v]).run P w=.ok (.int .i64 (src.n:Int)) (w.setRow g (cs++cur.toList.drop cs.length).toArray):=by
 obtain⟨Q,D,sc⟩:=src;obtain⟨inf,x,Z,C,W⟩:=info_parts h.hi;simp only at z;obtain⟨hlen,Y,A,k⟩:=M;simp only at hlen A k;have K:Nat.min D d=D:=Nat.min_eq_left z;have B:=run_storeCells_at (P:=P) g 0 T cs 0 cur w q (by simpa using H) G;cases Q with
 |none=>
  obtain⟨F,V⟩:=A rfl;subst F;have j:cs=[]:=o6 (by omega);subst j;have N:w.setRow g (([]:List aa)++cur.toList.drop 0).toArray=w:=by rw[n8,List.drop_zero,Array.toArray_toList];exact setRow_self w g cur T (0,0) q
  rw[List.length_nil,N];simp[Builtin.copy_,run_underlying h.ht,Builtin.lenOf,Builtin.firstCells,sizeOf,typeInfo,x,C,storeCells,goInt]
 |some a=>
  have y:=run_loadCells_list (P:=P) w a cs (λO v I=>by obtain⟨p,L,j⟩:=k O v I;cases L;exact j)
  rw[hlen]at y;simp only[Nat.zero_add,List.take_zero,n8]at B;simp[Builtin.copy_,run_underlying h.ht,Builtin.lenOf,Builtin.firstCells,sizeOf,typeInfo,x,C,K,y,B,goInt]
def SV{P:aw}{t ty e:aD}{K:aa}{sz bytes:Nat}(D:fS P t e K sz bytes){w:J}{s src:Sl}{vs cs:List aa}(A:aK w e sz s vs)(G:s.a≠none)(C:br sz w src cs)(k:src.n<=s.n)(F:∀v∈cs,v.oneCell'=true):
  ∃x,(Builtin.copy_ #[t,t] ty #[s.v,src.v]).run P w=.ok (.int .i64 (src.n:Int)) x/\aK x e sz s (cs++vs.drop cs.length)/\Fr (·∈aN s) w x:=by
 have I:=A.len;have N:=C.1;rcases A.cases with⟨rfl,rfl⟩|⟨g,cur,B,j,h,y,E,z⟩
 .exact absurd rfl G
 .obtain ⟨O,d,q⟩:=s;simp only at B k I h y E z;subst B;have L:src.n *sz<=d *sz:=jm _ k;have M:d *sz<=q *sz:=jm _ h;have H:cs.length<=cur.size:=by omega
  refine⟨_,Ya D g d q cur e j C k H F,?_,?_⟩
  .refine ⟨?_,.inr ⟨g,q,(cs++cur.toList.drop cs.length).toArray,rfl,dc _,setRow_heap w g cur _ e _ j,h,y,?_,?_⟩⟩
   .simp only[b',e8];omega
   .simp only[List.size_toArray,b',e8,Array.length_toList];omega
   .rw [List.take_append,dM (by omega:cs.length<=d *sz),List.take_drop,<-z,List.drop_take];congr 2;rw[show cs.length+(d *sz - cs.length)=d *sz by omega,List.drop_take]
  .rw [OG j];exact(Fr.put w g _).mono λQ _ e=>by simp[aN,e]
section
variable {M:Nat->Prop} {w0 w:J} {L D:List En} {bs:List Nat}
def _root_.Go.W.O.SY(H:O M w0 w L D)(i:Nat){P:aw}{t ty e:aD}{G:aa}{sz bytes:Nat}(q:fS P t e G sz bytes){s src:Sl}{vs cs:List aa}{K:Int->J->Prop}(hi:L[i]? =some (.row e sz s vs))(z:s.a≠none)(C:br sz w src cs)(B:src.n<=s.n)(x:∀v∈cs,v.oneCell'=true)(y:∀V,O M w0 V (L.set i (.row e sz s (cs++vs.drop cs.length))) D->K (src.n:Int) V)(h:∀b∈bs,En.g b∈L:=by simp):
  ∃(k:Int) (V:J),(Builtin.copy_ #[t,t] ty #[s.v,src.v]).run P w=.ok (.i k) V/\kept bs w V/\K k V:=by obtain⟨V,E,F,j⟩:=SV (ty:=ty) q (H.get i hi) z C B x;exact⟨_,V,E,λb d=>j.ck b (H.own _ (h b d)) λA=>H.xu hi (h b d) A,y V (H.fC i (.row e sz s (cs++vs.drop cs.length)) hi j F (λb d=>.inl d))⟩
end
def Yi{w:J}{s t:Sl}{a b:List Int}(D:bW w s a)(E:bW w t b)(N:a.length<=1000000000000):aj U Lf #[s.v,t.v] w λr z=>r=ae (.bool (ao (a=b)))/\ah w z:=by
 have Q:=bW.len D;have P:=bW.len E;refine vS.ok s t w _ (bY (λF=>⟨by rw[aP];intro k;subst k;omega,Fr.refl _ _⟩) (λM=>?_));have loop:∀(m i:Nat) (h:J),i+m=a.length->(a=b↔a.drop i=b.drop i)->O F0 w h [] [.rd s (a.map ct),.rd t (b.map ct)]->vS.L0 s t ((s.n:Nat):Int) (i:Int) h λr z=>r=ae (.bool (ao (a=b)))/\ah w z:=by
  intro m;induction m with
  |zero=>
   intro i h K d j;rw[de (by omega),de (by omega)]at d;exact vS.cU _ _ _ _ _ _ (aV (aP (by omega)) ⟨by rw[aM (d.2 rfl)],j.fr⟩)
  |succ m L=>
   intro i h K d j;have B:a[i]? =some (a[i]'(by omega)):=a5 (by omega);have C:b[i]? =some (b[i]'(by omega)):=a5 (by omega);rw[dk (by omega:i<a.length),dk (by omega:i<b.length),List.cons.injEq]at d;generalize a[i]'(by omega)=x at B d;generalize b[i]'(by omega)=y at C d;refine vS.cU _ _ _ _ _ _ (aT (aM (by omega)) (j.dr λA e=>⟨by omega,by omega,(show bW A s a from e.getD 0).cell B (by omega) λp S G=>⟨x,G,by omega,by omega,(show bW A t b from e.getD 1).cell C (by omega) λV T H=>⟨y,H,bY (λF=>⟨?_,e.fr⟩) (λI=>?_)⟩⟩⟩))
   .rw [aP];intro k;exact F (d.1 k).1
   .rw [bw _ (by omega)];exact L (i+1) A (by omega) (d.trans ⟨λq=>q.2,λq=>⟨I,q⟩⟩) e
 exact loop a.length 0 w (by omega) (by simp) (Vs (a:=.rd s (a.map ct)) (b:=.rd t (b.map ct)) D E)
def Yh{w:J}{s:Sl}{l:List Int}(e:bW w s l)(E:l.length<=1000000000000):aj U La #[s.v] w λr x=>Ac w l r x/\ah w x:=by
 have F:=bW.len e;refine OO.ok s w _ (bh (λk=>⟨⟨⟨none,0,0⟩,rfl,?_,λb h=>by cases h⟩,Fr.refl _ _⟩) (λk=>?_))
 .have z:s.a=none:=by simpa using k
  have:=(e.2.2.1 z).1;obtain rfl:l=[]:=o6 (by omega);exact aK.nil w bn 1
 .have y:O F0 w w [] [.rd s (l.map ct)]:=bO _ (by intro D q;simp only[aE,aZ,a2]at q;subst q;exact e)
  refine y.eK (n:=0) (sz:=1) (cs:=[]) rfl (by decide) λC j=>?_;have A:bW C s l:=j.getD 0;refine j.ap 0 rU (s:=⟨some (ad w.heap.size),0,0⟩) (src:=s) rfl A.2.2 (by simp;omega) (Uy _) (by show(0+s.n) *8<=_;omega) (λB G d _ _=>⟨⟨B,rfl,d.get 0,λb h=>(d.new _ (aB (i:=0) rfl) b h).resolve_right id⟩,d.fr⟩)
def Uj{w:J}{s:Sl}{l:List Nd}(e:GP w s l){i:Nat}{d:Nd}(hi:l[i]? =some d){K:Addr->Prop}{X:Int}(h:X=(i:Int))(k:∀p,s.a=some p->dF w (p.add (a1 X *9)) d->K p):mA s X K:=by have y:=h6 e;have x:=(cr.1 hi).1;subst h;exact⟨by omega,by omega,fD.elem (f:=Nd.c) (sz:=9) Nd.oJ (by omega) e.1.2.2 hi λp q j=>k p q j⟩
def Zl{w:J}{p q:Addr}{a b:Nd}(Z:dF w p a)(hb:dF w q b)(ka:a.P w)(kb:b.P w)(hl:a.x.kids.length<=1000000000):aj U LA #[.pointer (some p),.pointer (some q)] w λr w'=>r=ae (.bool (ao (a.x=b.x)))/\ah w w':=by
 have A:O F0 w w [] [.gb p a,.gb q b,cg a,cg b]:=bO _ (by
  intro ab V;simp only[aE,aZ,a2]at V;rcases V with rfl|rfl|rfl|rfl
  .exact Z
  .exact hb
  .exact ka
  .exact kb)
 have h:∀{B:J} {L:List En},O F0 w B L [.gb p a,.gb q b,cg a,cg b]->dF B p a:=λA=>A.getD 0;have j:∀{B:J} {L:List En},O F0 w B L [.gb p a,.gb q b,cg a,cg b]->dF B q b:=λA=>A.getD 1;obtain⟨⟨op,W,n,m,u,N,st⟩,sl⟩:=a;obtain⟨⟨M,Y,K,I,S,Q,z⟩,aa⟩:=b;have no:∀{T:J},ah w T->(⟨op,W,n,m,u,N,st⟩:Nx)≠⟨M,Y,K,I,S,Q,z⟩->(Ending.returned (.bool false)=ae (.bool (ao ((⟨op,W,n,m,u,N,st⟩:Nx)=⟨M,Y,K,I,S,Q,z⟩)))/\ah w T):=λf e=>⟨by rw[aP e],f⟩;refine PC.ok p q w _ (A.dr λT d=>⟨op,(h d).c0,M,(j d).c0,ax (λD=>?_) (λD=>no d.fr (λe=>D (congrArg Nx.op e)))⟩);refine⟨n,(h d).c2,K,(j d).c2,ax (λE=>?_) (λE=>no d.fr (λe=>E (congrArg Nx.n e)))⟩;refine⟨m,(h d).c3,I,(j d).c3,ax (λF=>?_) (λF=>no d.fr (λe=>F (congrArg Nx.m e)))⟩;refine⟨u,(h d).c4,S,(j d).c4,ax (λG=>?_) (λG=>no d.fr (λe=>G (congrArg Nx.u e)))⟩;refine⟨st.k,st.n,st.x,(h d).s0,(h d).s1,(h d).s2,z.k,z.n,z.x,(j d).s0,(j d).s1,(j d).s2,mg (a:=st) (b:=z) (λH=>?_) (λH=>no d.fr (λe=>H (congrArg Nx.st e)))⟩;refine⟨sl,(h d).c1,aa,(j d).c1,d.call (Yi (d.getD 2) (d.getD 3) (by simp only at hl ⊢;omega)) ?_⟩;rintro _ w2 rfl y;refine⟨_,rfl,(j y).c3,(h y).c3,(j y).c2,(h y).c2,(j y).c0,(h y).c0,aS (λC=>⟨N,(h y).c5,Q,(j y).c5,?_,y.fr⟩) (λC=>no y.fr (λe=>C (congrArg Nx.kids e)))⟩;rw[wg];simp only at C;subst D E F G H C;simp
def Pl{w:J}{s:Sl}{l:List Nd}{p:Addr}{d:Nd}(E:GP w s l)(K:dF w p d)(hd:d.P w)(Q:l.length<=1000000000)(H:∀D∈l,D.x.kids.length<=1000000000):
  aj U LB #[.agg #[s.v],.pointer (some p)] w λr A=>r=ae (.i (yx (e5 d.x (xs l) 0)))/\ah w A:=by
 have S:=h6 E;have F:O F0 w w [] [.gr s l,.gb p d,cg d]:=bO _ (by
  intro D e;simp only[aE,aZ,a2]at e;rcases e with rfl|rfl|rfl
  .exact bc.2 E
  .exact K
  .exact hd)
 have loop:∀(m i:Nat) (j:Nat) (k:J),i+m=l.length->e5 d.x ((xs l).drop i) i=e5 d.x (xs l) 0->O F0 w k [.g j] [.gr s l,.gb p d,cg d]->v8.a0 p j s ((s.n:Nat):Int) (i:Int) k λr A=>r=ae (.i (yx (e5 d.x (xs l) 0)))/\ah w A:=by
  intro m;induction m with
  |zero=>
   intro i j k I e h;rw[de (by simp[xs];omega)]at e;exact v8.bJ _ _ _ _ _ _ _ (aV (aP (by omega)) ⟨by rw[<-e];rfl,h.fr⟩)
  |succ m M=>
   intro i j k I e h;have y:l[i]? =some (l[i]'(by omega)):=a5 (by omega);have L:(xs l).drop i=(l[i]'(by omega)).x::(xs l).drop (i+1):=by rw[dk (by simp[xs];omega:i<(xs l).length)];simp[xs]
   rw[L]at e;generalize l[i]'(by omega)=a at y e;have B:GP k s l:=bc.1 (h.getD 0);refine v8.bJ _ _ _ _ _ _ _ (aT (aM (by omega)) (Uj B y rfl λV T G=>h.av (Zl G (h.getD 1) (B.2 a (aB y)) (h.getD 2) (H a (aB y))) ?_));rintro _ N rfl C;have q:(if a.x=d.x then some i else e5 d.x ((xs l).drop (i+1)) (i+1))=e5 d.x (xs l) 0:=e;refine⟨_,rfl,aS (λz=>⟨?_,C.fr⟩) (λz=>?_)⟩
   .rw [ag z]at q;rw[<-q];rfl
   .rw [ab z]at q;rw[bw _ (by omega)];exact M (i+1) j N (by omega) q C
 exact v8.au s p w _ (F.ay λj k h=>loop l.length 0 j k (by omega) (by simp) h)
section
variable {M:Nat->Prop} {w0 w:J} {L D:List En} {bs:List Nat}
def Yo{A d:List aa}{k j:Nat}{v:aa}(e:A.length=k):(A++d).set (k+j) v=A++d.set j v:=by subst e;rw[List.set_append,ab (by omega)];congr 2;omega
def _root_.Go.W.O.XU(H:O M w0 w L D)(i k:Nat){s:Sl}{A y:List aa}{p:Addr}{e:Nd}{K:J->Prop}(hi:L[i]? =some (.row bI 9 s (A++y)))(hp:s.a=some p)(hA:A.length=k *9)(hZ:y.length=9)(hK:∀V,O M w0 V (L.set i (.row bI 9 s (A++e.c))) D->K V)(ag:∀b∈bs,En.g b∈L:=by simp):
  aJ w (p.add (k *9)) (.i e.x.op) λd=>kept bs w d/\aJ d ((p.add (k *9)).add 1) e.ks.v λz=>kept bs d z/\aJ z ((p.add (k *9)).add 2) (.i e.x.n) λB=>kept bs z B/\aJ B ((p.add (k *9)).add 3) (.i e.x.m) λC=>kept bs B C/\aJ C ((p.add (k *9)).add 4) (.u e.x.u) λE=>kept bs C E/\
   aJ E ((p.add (k *9)).add 5) (.string e.x.tx) λF=>kept bs E F/\aJ F ((p.add (k *9)).add 6) (.i e.x.st.k) λG=>kept bs F G/\aJ G ((p.add (k *9)).add 7) (.i e.x.st.n) λI=>kept bs G I/\aJ I ((p.add (k *9)).add 8) (.i e.x.st.x) λQ=>kept bs I Q/\K Q:=by
 have ah:=(cr.1 hi).1;have ai:∀{vs:List aa} {b:Nat},En.g b∈L->En.g b∈L.set i (.row bI 9 s vs):=by
  intro vs b hb;obtain⟨ac,hj⟩:=List.mem_iff_getElem?.1 hb;by_cases af:i=ac
  .subst af;rw[hi]at hj;have e1:En.row bI 9 s (A++y)=En.g b:=Option.some.inj hj;exfalso;have e2:(En.row bI 9 s (A++y)).P=(En.g b).P:=by rw[e1]
   have f1:(En.row bI 9 s (A++y)).fp=(En.g b).fp:=by rw[e1]
   have ae:(En.g b).P ({w with heap:=Array.replicate (b+1) (.map #[] 0)}):=by show b<_;simp
   rw[<-e2]at ae;have hx:b∈aN s:=by show b∈(En.row bI 9 s (A++y)).fp;rw[f1];simp[En.g]
   obtain⟨cs,f,Y⟩:=(aK.row (show aK ({w with heap:=Array.replicate (b+1) (.map #[] 0)}) bI 9 s (A++y)from ae)).tC b hx;simp at Y
  .exact aB (i:=ac) (by rw[List.getElem?_set_ne af];exact hj)
 match y,hZ with
 |[z0,z1,z2,T,z4,S,N,q,h],_=>
  have len:∀{vs:List aa},vs.length=9->∀c,c<9->k *9+c<(A++vs).length:=λab c Y=>by rw[b',hA,ab];omega
  have j:∀{V:J} {L':List En} {vs:List aa} (c:Nat) (v:aa) {K':J->Prop},L'=L.set i (.row bI 9 s (A++vs))->vs.length=9->c<9->O M w0 V L' D->(∀Z,O M w0 Z (L.set i (.row bI 9 s (A++vs.set c v))) D->K' Z)->aJ V ((p.add (k *9)).add c) v λd=>kept bs V d/\K' d:=by rintro V _ vs c v K' rfl aj Y H' hk;refine H'.tn (bs:=bs) i (k *9) c (by rw[hv ah]) hp (len aj c Y) (λZ ad=>hk Z ?_) (λb hb=>ai (ag b hb));rw[List.set_set,Yo hA]at ad;exact ad
  have e0:L=L.set i (.row bI 9 s (A++[z0,z1,z2,T,z4,S,N,q,h])):=by
   apply List.ext_getElem?;intro ac;rw[List.getElem?_set];split
   .rename_i ab;subst ab;rw[hi]
   .rfl
  have first:=j (V:=w) (vs:=[z0,z1,z2,T,z4,S,N,q,h]) 0 (.i e.x.op) (K':=λd=>aJ d ((p.add (k *9)).add 1) e.ks.v λz=>kept bs d z/\aJ z ((p.add (k *9)).add 2) (.i e.x.n) λB=>kept bs z B/\aJ B ((p.add (k *9)).add 3) (.i e.x.m) λC=>kept bs B C/\aJ C ((p.add (k *9)).add 4) (.u e.x.u) λE=>kept bs C E/\
   aJ E ((p.add (k *9)).add 5) (.string e.x.tx) λF=>kept bs E F/\aJ F ((p.add (k *9)).add 6) (.i e.x.st.k) λG=>kept bs F G/\aJ G ((p.add (k *9)).add 7) (.i e.x.st.n) λI=>kept bs G I/\aJ I ((p.add (k *9)).add 8) (.i e.x.st.x) λQ=>kept bs I Q/\K Q) e0 rfl (by decide) H (λd H1=>?_)
  .rw [iz]at first
   exact first
  refine j (vs:=[.i e.x.op,z1,z2,T,z4,S,N,q,h]) 1 e.ks.v rfl rfl (by decide) H1 λz H2=>?_;refine j (vs:=[.i e.x.op,e.ks.v,z2,T,z4,S,N,q,h]) 2 (.i e.x.n) rfl rfl (by decide) H2 λB H3=>?_;refine j (vs:=[.i e.x.op,e.ks.v,.i e.x.n,T,z4,S,N,q,h]) 3 (.i e.x.m) rfl rfl (by decide) H3 λC H4=>?_;refine j (vs:=[.i e.x.op,e.ks.v,.i e.x.n,.i e.x.m,z4,S,N,q,h]) 4 (.u e.x.u) rfl rfl (by decide) H4 λE H5=>?_;refine j (vs:=[.i e.x.op,e.ks.v,.i e.x.n,.i e.x.m,.u e.x.u,S,N,q,h]) 5 (.string e.x.tx) rfl rfl (by decide) H5 λF H6=>?_;refine j (vs:=[.i e.x.op,e.ks.v,.i e.x.n,.i e.x.m,.u e.x.u,.string e.x.tx,N,q,h]) 6 (.i e.x.st.k) rfl rfl (by decide) H6 λG H7=>?_;refine j (vs:=[.i e.x.op,e.ks.v,.i e.x.n,.i e.x.m,.u e.x.u,.string e.x.tx,.i e.x.st.k,q,h]) 7 (.i e.x.st.n) rfl rfl (by decide) H7 λI H8=>?_;refine j (vs:=[.i e.x.op,e.ks.v,.i e.x.n,.i e.x.m,.u e.x.u,.string e.x.tx,.i e.x.st.k,.i e.x.st.n,h]) 8 (.i e.x.st.x) rfl rfl (by decide) H8 λQ H9=>?_;exact hK Q H9
end
def VT(n:Nat):(madeCells (Value.agg #[.int .i64 0,.slice none 0 0,.int .i64 0,.int .i64 0,.int .u64 0,.string (bj #[]),.int .i64 0,.int .i64 0,.int .i64 0]).cells (n *9)).toList.length=n *9:=by simp[madeCells]
def Pg{w:J}{s:Sl}{l:List Nd}{d:Nd}(ac:GP w s l)(hd:d.P w)(hk:cO.P w)(ho:jW d.x)(ai:l.length<=1000000000)(hv:∀A∈xs l,bo A.st=true)(ar:∀A∈l,A.x.kids.length<=1000000000):
  aj U Lo #[.agg #[s.v],d.v] w λr w'=>(∃s':Sl,r=ae (.tuple #[.agg #[s'.v],.i (b6 (xs l) d.x).2.1,.i (b6 (xs l) d.x).2.2])/\GR w (·∈(En.gr s l).fp) (b6 (xs l) d.x).1 s' w')/\ah w w':=by
 have hn:=h6 ac;have ax:(xs l).length=l.length:=by simp[xs]
 have am:O F0 w w [] [.gr s l,cg d,cO]:=bO _ (by
  intro A M;simp only[aE,aZ,a2]at M;rcases M with rfl|rfl|rfl
  .exact bc.2 ac
  .exact hd
  .exact hk)
 refine Pr.au _ _ _ _ _ _ _ _ _ _ w _ (am.ay λH N H1=>H1.nw λw2 _ H2=>H2.ay λI w3 h=>?_);have h:O F0 w w3 [.g H,.c N.heap.size d.c bI,.g I] [.gr s l,cg d,cO]:=h;refine⟨d.x.op,d.ks,d.x.n,d.x.m,d.x.u,d.x.tx,d.x.st.k,d.x.st.n,d.x.st.x,h.ld 1 0,h.ld 1 1,h.ld 1 2,h.ld 1 3,h.ld 1 4,h.ld 1 5,h.ld 1 6,h.ld 1 7,h.ld 1 8,?_⟩;refine h.av (Ph (bc.1 (h.getD 0)) (h.getD 1) (h.getD 2) ho ai hv) ?_;rintro _ w4 rfl H4;refine⟨_,_,_,_,rfl,H4.ay λL w5 W=>bY (λT=>W.af λw6 S=>⟨⟨⟨none,0,0⟩,?_,?_⟩,S.fr⟩) (λT=>W.af λw6 S=>?_)⟩
 .unfold b6;rw[ag T]
 .unfold b6;rw[ag T];exact GR.nil _ _ _
 have B:b6 (xs l) d.x=match e5 (dD d.x (bF (xs l) d.x).1) (xs l) 0 with
   |some i=>(xs l,(i:Int),0)
   |none=>if 4096<=(xs l).length then([],0,4)else(xs l++[dD d.x (bF (xs l) d.x).1],((xs l).length:Int),0):=by unfold b6;rw[ab (by omega)];try rfl
 generalize(bF (xs l) d.x).1=sr at *;refine S.gT 1 6 rfl (λw7 H7=>H7.mq 1 6 1 rfl (λw8 H8=>H8.mq 1 6 2 rfl (λw9 F=>?_) (by simp[Nd.c])) (by simp[Nd.c])) (by simp[Nd.c])
 let A:Nd:=⟨dD d.x sr,d.ks⟩
 have F:O F0 w w9 [.g H,.c N.heap.size A.c bI,.g I,.g L] [.gr s l,cg d,cO]:=F;refine F.av (Pl (d:=A) (bc.1 (F.getD 0)) (CY (F.ob 1)) (F.getD 1) ai ar) ?_;rintro _ az rfl D;refine⟨_,rfl,?_⟩;have M:A.x=dD d.x sr:=rfl;rw[M];cases hi:e5 (dD d.x sr) (xs l) 0 with
 |some i=>
  rw[hi]at B;rw[B];exact aT (aM (Int.natCast_nonneg i)) (D.af λak E=>⟨⟨s,rfl,⟨l,rfl,bc.1 (E.getD 0),λb q=>.inl q⟩⟩,E.fr⟩)
 |none=>
  rw[hi]at B;dsimp only at B;refine aV (by decide) (aS (λh4=>D.af λak E=>⟨⟨⟨none,0,0⟩,?_,?_⟩,E.fr⟩) (λh4=>?_))
  .rw [B,ag (by omega)]
  .rw [B,ag (by omega)];exact GR.nil _ _ _
  rw[ab (by omega)]at B;rw[B];refine⟨d.ks,D.ld 1 1,D.gY (Yh (show bW az d.ks d.x.kids from D.getD 1) (by have:=ho.kl;omega)) ?_⟩;rintro _ ak ⟨Y,rfl,aq,aa⟩ _ al;have E:=al.rd (.rd Y (d.x.kids.map ct)) (nY aq) (vB aa);refine⟨_,rfl,E.gT 1 1 rfl (λC K=>?_) (by simp[Nd.c])⟩
  let z:Nd:=⟨dD d.x sr,Y⟩
  have K:O F0 w C [.g H,.c N.heap.size z.c bI,.g I,.g L] [.gr s l,cg d,cO,cg z]:=K;have e1:aG .i64 (((s.n:Nat):Int)+1)=((l.length+1:Nat):Int):=by rw[bm _ (by omega),hn];rfl
  rw[e1];obtain⟨V,r1,r2,r3⟩:=Js mL C (l.length+1) (by omega);have Q:=K.Nb r3 r2 (by intro b q;simp[aN]at q;omega);have kp:∀b∈[H,I,L],V.heap[b]? =C.heap[b]?:=λb q=>by
   have hg:En.g b∈[En.g H,.c N.heap.size z.c bI,.g I,.g L]:=by simp only[aE,aZ,a2]at q ⊢;rcases q with rfl|rfl|rfl<;>simp
   exact r3.ck b (K.own _ hg) id
  refine⟨⟨some (ad C.heap.size),l.length+1,l.length+1⟩,V,r1,kp,?_⟩;generalize ap:(madeCells (Value.agg #[.int .i64 0,.slice none 0 0,.int .i64 0,.int .i64 0,.int .u64 0,.string (bj #[]),.int .i64 0,.int .i64 0,.int .i64 0]).cells ((l.length+1) *9)).toList=Dq at Q;have hold:Dq.length=(l.length+1) *9:=by rw[<-ap];exact VT _
  have aw:=Nd.gZ l;refine Q.SY 4 mL rfl (by simp) (show br 9 V s (l.flatMap Nd.c)from(bc.1 (Q.getD 0)).1) (by simp only;omega) qs (λaC y=>?_);have hz:(Dq.drop (l.flatMap Nd.c).length).length=9:=by rw[e8];omega
  generalize Dq.drop (l.flatMap Nd.c).length=Z at hz y;refine⟨_,_,_,_,_,_,_,_,_,y.ld 1 0,y.ld 1 1,y.ld 1 2,y.ld 1 3,y.ld 1 4,y.ld 1 5,y.ld 1 6,y.ld 1 7,y.ld 1 8,by omega,by simp only;omega,WX ?_⟩;rw[hn,bZ];refine y.XU (e:=z) 4 l.length rfl rfl aw hz (λaD an=>?_);refine an.af λaA G=>⟨⟨_,by rw[ax],⟨l++[z],by simp[xs,z],⟨?_,λa j=>?_⟩,λb q=>?_⟩⟩,G.fr⟩
  .have:aK aA bI 9 ⟨some (ad C.heap.size),l.length+1,l.length+1⟩ (l.flatMap Nd.c++z.c):=G.get 4;have:=this.a7;simpa using this
  .rcases aL.1 j with j|j
   .exact (bc.1 (G.getD 0)).2 a j
   .simp only[aE,aZ,a2]at j;subst j;exact G.getD 3
  .rcases sa.1 q with q|⟨a,j,q⟩
   .right;have ao:b∈(En.row bI 9 ⟨some (ad C.heap.size),l.length+1,l.length+1⟩ (l.flatMap Nd.c++z.c)).fp:=by
     have:b∈(if(l++[z]).flatMap Nd.c=[]then[]else aN ⟨some (ad C.heap.size),l.length+1,l.length+1⟩):=q;split at this
     .cases this
     .exact this
    exact(G.new _ (aB (i:=4) rfl) b ao).resolve_right id
   .rcases aL.1 j with j|j
    .exact .inl (sa.2 (.inr ⟨a,j,q⟩))
    .simp only[aE,aZ,a2]at j;subst j;exact .inr (bp D.fr.size (vB aa b q))
def eG(es:Array MapEntry)(ms:List (ByteArray×aa)):Prop:=es.toList.map (λd=>(d.key,d.val))=ms.map λp=>(Value.string p.1,p.2)
def kS(ms:List (ByteArray×aa))(k:ByteArray):Option aa:=(ms.find? λp=>ao (p.1=k)).map (·.2)
def Re(a b:ByteArray):(a==b)=ao (b=a):=by
 cases d:ao (b=a)with
 |true=>rw[eZ d];exact(Go.MapKept.bytes_beq _ _).2 rfl
 |false=>
  cases e:(a==b)with
  |false=>rfl
  |true=>exact absurd ((Go.MapKept.bytes_beq _ _).1 e).symm (kq d)
def uN{k:ByteArray}:∀{es:List MapEntry} {ms:List (ByteArray×aa)} {i:Nat},es.map (λh=>(h.key,h.val))=ms.map (λp=>(Value.string p.1,p.2))->
  Instr.findNow .string (.string k) es i=some ((ms.findIdx? λp=>ao (p.1=k)).bind λe=>(ms[e]?).map λp=>(i+e,p.2))
 |[],[],i,_=>rfl
 |[],_::_,_,d=>by simp at d
 |_::_,[],_,d=>by simp at d
 |h::es,p::ms,i,d=>by
  simp only[iQ,List.cons.injEq,Prod.mk.injEq]at d;obtain⟨⟨w,x⟩,y⟩:=d;have z:=uN (k:=k) (i:=i+1) y;unfold Instr.findNow;simp only[w,Instr.sameNow,Re];by_cases j:p.1=k
  .have q:ao (p.1=k)=true:=aM j;simp[List.findIdx?_cons,j,x]
  .have q:ao (p.1=k)=false:=aP j;simp only[z,List.findIdx?_cons,q,Bool.false_eq_true,if_false];congr 1;cases A:ms.findIdx? (λp=>ao (p.1=k))with
   |none=>simp
   |some e=>simp[Nat.add_assoc,Nat.add_comm 1 e]
def Ek{ms:List (ByteArray×aa)}{k:ByteArray}{i:Nat}:(((ms.findIdx? λp=>ao (p.1=k)).bind λd=>(ms[d]?).map λp=>(i+d,p.2)).map (·.2))=kS ms k:=by
 unfold kS;induction ms generalizing i with
 |nil=>rfl
 |cons p ms j=>
  by_cases e:p.1=k
  .simp [List.findIdx?_cons,e]
  .have h:ao (p.1=k)=false:=aP e;simp only[List.findIdx?_cons,h,Bool.false_eq_true,if_false,List.find?_cons];rw[<-j (i:=i+1)];cases q:ms.findIdx? (λp=>ao (p.1=k))with
   |none=>simp
   |some d=>simp[Function.comp_def]
structure nA(P:aw)(T kt et:aD)(z:aa):Prop where
 hT:P.underlying T=some (.map kt et)
 hk:P.underlying kt=some .string
 hz:(P.info? et).map (·.zero)=some (some z)
def w8{P:aw}{kt:aD}(d:P.underlying kt=some .string)(b:Bool)(k:ByteArray)(w:J):(Instr.checkKey b 10000 kt (.string k)).run P w=.ok () w:=by unfold Instr.checkKey;simp[run_underlying d]
def u4{P:aw}{T kt y:aD}{x:aa}(e:nA P T kt y x){w:J}{h:Nat}{es:Array MapEntry}{clock:Nat}{ms:List (ByteArray×aa)}(B:w.heap[h]? =some (.map es clock))(C:eG es ms)(k:ByteArray):
  (Instr.lookup T (.map (some h)) (.string k) true).run P w=.ok (.tuple #[(kS ms k).getD x,.bool (kS ms k).isSome]) w:=by
 have z:=uN (k:=k) (i:=0) C;have A:(getObj h).run P w=.ok (.map es clock) w:=by simp[getObj,ow,B]
 have d:=Ek (ms:=ms) (k:=k) (i:=0);unfold Instr.lookup Instr.findKey;simp only[Sem.run_bind,run_underlying e.hT,Result.andThen_ok,A,Sem.run_pure,w8 e.hk,run_underlying e.hk,z];cases j:((ms.findIdx? λp=>ao (p.1=k)).bind λq=>(ms[q]?).map λp=>(0+q,p.2))with
 |none=>rw[j]at d;simp[<-d,zP e.hz]
 |some D=>rw[j]at d;simp[<-d]
def tD{P:aw}{T kt A:aD}{G:aa}(q:nA P T kt A G){w:J}{d:Nat}{es:Array MapEntry}{clock:Nat}{ms:List (ByteArray×aa)}(h:w.heap[d]? =some (.map es clock))(j:eG es ms)(k:ByteArray)(v:aa)(E:kS ms k=none):
  ∃e x,(Instr.mapUpdate T (.map (some d)) (.string k) v).run P w=.ok () e/\e.heap[d]? =some (.map x (clock+1))/\eG x (ms++[(k,v)])/\Fr (λb=>b=d) w e/\e.heap.size=w.heap.size:=by
 have B:=uN (k:=k) (i:=0) j;have C:(getObj d).run P w=.ok (.map es clock) w:=by simp[getObj,ow,h]
 have y:=Ek (ms:=ms) (k:=k) (i:=0);have D:=lC h;have F:((ms.findIdx? λp=>ao (p.1=k)).bind λz=>(ms[z]?).map λp=>(0+z,p.2))=none:=by rw[E]at y;simpa using y
 refine⟨{w with heap:=w.heap.setIfInBounds d (.map (es.push {key:=.string k,val:=v,born:=clock}) (clock+1))},es.push {key:=.string k,val:=v,born:=clock},?_,by simp[D],?_,Fr.setObj w d _ rfl,by simp⟩
 .unfold Instr.mapUpdate Instr.findKey;simp only[Sem.run_bind,run_underlying q.hT,Result.andThen_ok,C,w8 q.hk,run_underlying q.hk,B,F];simp[setObj,ow,h]
 .unfold eG at j ⊢;simp[j]
def FT{a b:List UInt8}(d:ba a=ba b):a=b:=by
 have:=congrArg bl d
 rwa[kC,kC]at this
def dS{a b:List UInt8}{A B:Prop}(h:a=b->A)(j:a≠b->B):bq ((ba a).toList==(ba b).toList) A B:=
 y6 (λd=>h (FT d)) (λd=>j λe=>d (e▸rfl))
def mh{α:Type}(f:α->aa):∀(l:List (List UInt8×α)) (t:List UInt8),kS (l.map λj=>(ba j.1,f j.2)) (ba t)=(lk l t).map f
 |[],t=>rfl
 |(h,v)::l,t=>by
  have e:=mh f l t;unfold kS at e ⊢;unfold lk;rw[iQ,List.find?_cons];by_cases d:h=t
  .subst d;simp
  .have q:ba h≠ba t:=λk=>d (FT k);rw[ab d];simp only[q,decide_false];exact e
def fe{α β:Type}{x:PR α}{f:α->aI->PR β}{e:Int}{p:Nat}(d:x=.er e p):x.b f=.er e p:=by subst d;rfl
def eS{α β:Type}{x:PR α}{f:α->aI->PR β}{a:α}{s:aI}(d:x=.ok a s):x.b f=f a s:=by subst d;rfl
section
variable {X:RC} {T:List aR}
def va{w V:J}{α:Type}{x:PR α}{val:α->aa}{a:α}{s':aI}(e:x=.ok a s')(d:(bf X s').P V)(f:Fr (·∈[X.rb]) w V):hD X w x val (ae (val a)) V:=by subst e;exact⟨rfl,d,f⟩
def jF{w V:J}{α:Type}{x:PR α}{val:α->aa}{e:Int}{p:Nat}(d:x=.er e p)(f:Fr (·∈[X.rb]) w V):hD X w x val (.panicked (hl e p)) V:=by subst d;exact⟨rfl,f⟩
def sZ{w:J}{D:List En}{s:aI}(j:(bf X s).P w)(k:gu w X.rb D)(q:mE X T D)(x:s.p<T.length):
  aj U oX #[.pointer (some (ad X.rb))] w (hD X w (dm T s) λn=>.i n):=by refine MS.au _ w _ (ew (jf rfl j k) 0 rfl (hO j k q x) (λt K H d y=>⟨_,_,_,rfl,y.ay λb L z=>z.af λM A=>?_⟩) (λd p H er f=>jF (fe er) f));obtain⟨B,C,I⟩:=oZ d;obtain⟨E,F,G⟩:=q.e.i t (B▸(pq x).1) C;refine A.av (Yg E F G _) ?_;rintro _ N rfl h;exact⟨_,_,rfl,false,uY _ _,aV rfl (va (val:=λn=>.i n) (eS d) (h.get 0) h.fr)⟩
def DR{w:J}{D:List En}{s:aI}(d:(bf X s).P w)(ak:gu w X.rb D)(z:mE X T D)(M:s.p<T.length):
  aj U vh #[.pointer (some (ad X.rb))] w (hD X w (ic T s) dq):=by
 have nd:∀{k:Int} {t:aR} {s s':aI},s.p<T.length->k≠6->bM T k s=.ok t s'->s'.p<T.length:=λM Y F=>(dW z.e M Y F).l;refine vr.au _ w _ ((jf rfl d ak).ay λB L N=>ew N 0 rfl (hO (N.get 0) (cF N (i:=0) rfl rfl) z M) (λt s1 w2 W H2=>⟨_,_,_,rfl,H2.ay λC w3 H3=>H3.af λw4 Q=>?_⟩) (λF p L er f=>jF (fe er) f));have p1:=nd M (by decide) W;refine ew Q 0 rfl (hO (Q.get 0) (cF Q (i:=0) rfl rfl) z p1) (λu K w5 e2 H5=>⟨_,_,_,rfl,H5.ay λV w6 H6=>H6.ay λE w7 A=>?_⟩) (λF p L er f=>jF ((eS W).trans (fe er)) f);have p2:=nd p1 (by decide) e2;have A:O (·∈[X.rb]) w w7 [bf X K,.g B,.g C,.g V,.g E] D:=A;have two:∀(k x:Int) (s3:aI) (h:J),s3.p<T.length->O (·∈[X.rb]) w h [bf X s3,.g B,.g C,.g V,.g E] D->
   (ic T s=(dm T s3).b λn s=>(bM T 1 s).b λ_ s=>if bo ⟨k,n,x⟩then .ok ⟨k,n,x⟩ s else .er 9 t.a3)->
   vr.bA (ad X.rb) B 0 0 0 C t.kind (ba t.text) t.a3 E k 0 x h (hD X w (ic T s) dq):=λk x s3 h p3 j y=>by
  refine ew j 0 rfl (sZ (j.get 0) (cF j (i:=0) rfl rfl) z p3) (λn s4 w9 I S=>⟨_,rfl,S.af λah H=>?_⟩) (λF p L er f=>jF (y.trans (fe er)) f);have p4:=(j4 z.e p3 I).1.l;have y:=y.trans (eS I);refine ew H 0 rfl (hO (H.get 0) (cF H (i:=0) rfl rfl) z p4) (λc s5 am e5 ai=>⟨_,_,_,rfl,ai.av (EE ⟨k,n,x⟩ am) ?_⟩) (λF p L er f=>jF (y.trans (fe er)) f);have y:=y.trans (eS e5);rintro _ an rfl ac;refine⟨_,rfl,bY (λd=>fI ac (iR _ 9 t an) λw' f=>jF (y.trans (ab ?_)) f) (λd=>ac.af λao ae=>va (val:=dq) (y.trans (ag ?_)) (ae.get 0) ae.fr)⟩
  .intro Z;exact d (by show fy _=0;unfold fy;rw[ag Z])
  .refine Classical.byContradiction λZ=>?_;have d:fy _=0:=d;unfold fy at d;rw[ab Z]at d;cases d
 have G:ic T s=(match tg u.text with
  |none=>jl u
  |some k=>(if k=2\/k=3 then dm T K else .ok 0 K).b λx s=>(dm T s).b λn s=>(bM T 1 s).b λ_ s=>
   if bo ⟨k,n,x⟩then .ok ⟨k,n,x⟩ s else .er 9 t.a3):=(eS W).trans (eS e2)
 have go:∀(k:Int) (h:J),O (·∈[X.rb]) w h [bf X K,.g B,.g C,.g V,.g E] D->tg u.text=some k->vr.aX (ad X.rb) B 0 0 0 C t.kind (ba t.text) t.a3 E k 0 0 h (hD X w (ic T s) dq):=λk h j Y=>by
  rw[Y]at G;have one:k=2\/k=3->vr.bb (ad X.rb) B 0 0 0 C t.kind (ba t.text) t.a3 E k 0 0 h (hD X w (ic T s) dq):=λal=>by have E1:=G.trans (congrArg (λaa=>PR.b aa _) (ag al));exact ew j 0 rfl (sZ (j.get 0) (cF j (i:=0) rfl rfl) z p2) (λn s4 w9 I S=>⟨_,rfl,S.af λah H=>two k n s4 ah (j4 z.e p2 I).1.l H (E1.trans (eS I))⟩) (λF p L er f=>jF (E1.trans (fe er)) f)
  exact ax (λd=>one (.inl d)) (λd=>ax (λh'=>one (.inr h')) (λh'=>two k 0 K h p2 j (G.trans (congrArg (λaa=>PR.b aa _) (ab (by omega))))))
 have q:tg u.text=if u.text=[98,118]then some 0 else if u.text=[115,116,114]then some 1 else if u.text=[97,114,114]then some 2 else if u.text=[97,114,115]then some 3 else none:=rfl;refine dS (b:=[98,118]) (λd=>A.af λh j=>go 0 h j (q.trans (ag d))) (λd=>?_);rw[ab d]at q;refine dS (b:=[115,116,114]) (λd=>A.af λh j=>go 1 h j (q.trans (ag d))) (λd=>?_);rw[ab d]at q;refine dS (b:=[97,114,114]) (λd=>A.af λh j=>go 2 h j (q.trans (ag d))) (λd=>?_);rw[ab d]at q;refine dS (b:=[97,114,115]) (λd=>A.af λh j=>go 3 h j (q.trans (ag d))) (λd=>A.af λh j=>?_);rw[ab d]at q;rw[q]at G;exact fI j (o7 _ u h) λw' f=>jF G f
def qB:List (ByteArray×aa):=fM.map λd=>(ba d.1,.agg #[.i d.2.1,.i ((d.2.2:Nat):Int)])
def Ch:nA U EU fk ZH (.agg #[.i 0,.i 0]):=by constructor<;>kernel_rfl
def sw:nA U ET fk bn (.i 0):=by constructor<;>kernel_rfl
def xY:nA U PX fk il (.agg #[.slice none 0 0,.i 0,.i 0]):=by constructor<;>kernel_rfl
def hS(q:List UInt8×Nat):ByteArray×aa:=(ba q.1,.i ((q.2:Nat):Int))
def oV(q:List UInt8×(Sl×PM)):ByteArray×aa:=(ba q.1,.agg #[q.2.1.v,.i ((q.2.2.b:Nat):Int),.i ((q.2.2.ix:Nat):Int)])
def eM(l:List (List UInt8×aU)):List aa:=l.flatMap λd=>[.string (ba d.1),.i d.2.k,.i d.2.n,.i d.2.x]
structure gq(X:RC)(E:bS)(Ms:List (List UInt8×(Sl×PM)))(D:List En):Prop where
 tk:mE X E.T D
 mo:∃es c,En.ob X.mo (.map es c)∈D/\eG es qB
 mv:∃es c,En.ob X.mv (.map es c)∈D/\eG es (E.vs.map hS)
 mm:∃es c,En.ob X.mm (.map es c)∈D/\eG es (Ms.map oV)
 ms:E.ms=Ms.map λq=>(q.1,q.2.2)
 pr:∀q∈Ms,En.a7 4 q.2.1 (eM q.2.2.ps)∈D
 pm:match X.pm with
  |none=>E.pm=[]
  |some b=>∃es c,En.ob b (.map es c)∈D/\eG es (E.pm.map hS)
 kn:X.kn=(E.kn:Int)
 dp:X.dp=E.dp
 kc:cO∈D
variable {E:bS} {Ms:List (List UInt8×(Sl×PM))}
def Ov{w:J}{D:List En}{s:aI}(h:(bf X s).P w)(j:gu w X.rb D):O F0 w w [] (bf X s::D):=bO _ (by
 intro e d;rcases aE.1 d with rfl|d
 .exact h
 .exact (j e d).1)
def Ns{w:J}{D:List En}{s:aI}(d:(bf X s).P w)(I:gu w X.rb D)(K:gq X E Ms D)(t:List UInt8):
  aj U KM #[.pointer (some (ad X.rb)),.string (ba t)] w λr N=>r=ae (.bool (l7 t))/\ah w N:=by
 have h:=Ov d I;refine MT.au _ _ w _ ?_;refine dS (b:=[110,117,109]) (λd=>dS (b:=[110,117,109]) (λ_=>⟨by subst d;rfl,h.fr⟩) λe=>absurd d e) (λz=>?_);refine dS (b:=[122,101,114,111]) (λd=>dS (b:=[122,101,114,111]) (λ_=>⟨by subst d;rfl,h.fr⟩) λe=>absurd d e) (λA=>?_);refine dS (b:=[101,120,116,114,97,99,116]) (λd=>dS (b:=[101,120,116,114,97,99,116]) (λ_=>⟨by subst d;rfl,h.fr⟩) λe=>absurd d e) (λB=>?_);refine dS (b:=[122,101,120,116]) (λd=>dS (b:=[122,101,120,116]) (λ_=>⟨by subst d;rfl,h.fr⟩) λe=>absurd d e) (λC=>?_);refine dS (b:=[115,101,120,116]) (λd=>dS (b:=[115,101,120,116]) (λ_=>⟨by subst d;rfl,h.fr⟩) λe=>absurd d e) (λF=>?_);refine dS (b:=[98,121,116,101]) (λd=>dS (b:=[98,121,116,101]) (λ_=>⟨by subst d;rfl,h.fr⟩) λe=>absurd d e) (λG=>?_);refine dS (b:=[105,110]) (λd=>⟨by subst d;rfl,h.fr⟩) (λH=>?_);have y:l7 t=(lk fM t).isSome:=by unfold l7 OU;simp[z,A,B,C,F,G,H]
 obtain⟨Q,c,L,M⟩:=K.mo;have j:=u4 Ch (h.rd _ (cH _ L)) M (ba t);rw[qB,mh λk:Int×Nat=>Value.agg #[.i k.1,.i ((k.2:Nat):Int)]]at j;refine⟨_,h.dB 0 4,((lk fM t).getD (0,0)).1,(((lk fM t).getD (0,0)).2:Nat),(lk fM t).isSome,?_,h.ay λO S q=>q.af λT x=>⟨by rw[y],x.fr⟩⟩;rw[j];cases lk fM t<;>rfl
end
def zM(x:Int):dx (aG .i64 x):=by rw[IntKind.wrap_i64];omega
structure MdV(d:Nx):Prop extends MdN d where
 nv:d.op≠0
def lV(w:J)(r:cA)(V:J):Prop:=∃d:Nd,r=ae d.v/\MdV d.x/\d.P V/\∀b∈aN d.ks,w.heap.size<=b
def VX{op n m u:Int}{e:ByteArray}{st:aU}{ks:List Int}(d:MdV ⟨op,[],n,m,u,e,st⟩)(h:ks.length<=3):MdV ⟨op,ks,n,m,u,e,st⟩:=⟨⟨d.Mu,d.Mw,h,d.n,d.m,d.u,d.tx,d.re,d.li⟩,d.nv⟩
def B3(op:Int):-1<=cl op/\cl op<=3:=by unfold cl;repeat' split<;>omega
section
variable {w:J} {s:Sl} {l:List Nd} {n1 m2 k3:Int} {b8 kA:Nat}
def Wu(hm:dx m2)(C:dx k3)(hl:l.length<=eF){op n m u:Int}{G:ByteArray}{st:aU}(hd:MdV ⟨op,[],n,m,u,G,st⟩)(many:Nat)(ao:many<=3)(x:Int)(ad:-1<=x)(ae:x<(l.length:Int)):
  ∀(d i:Nat) (sl:Sl) (ks:List Int) (E:J),i+d=many->ks.length=i->(∀P∈ks,0<=P/\P<(l.length:Int))->O F0 w E [.g b8,.g kA,nX sl ks] [.gr s l]->
   iF.hU s m2 k3 b8 0 ⟨none,0,0⟩ 0 0 0 (bj #[]) 0 0 0 kA op sl n m u G st.k st.n st.x x (many:Int) (i:Int) E λr A=>lV w r A/\ah w A:=by
 intro d;unfold eF at hl;induction d with
 |zero=>
  intro i sl ks E hi hlen aa B;refine iF.k8 _ _ _ _ _ _ _ _ _ _ _ _ _ _ _ _ _ _ _ _ _ _ _ _ _ _ _ _ (aV (aP (by omega)) (B.af λH y=>⟨⟨⟨⟨op,ks,n,m,u,G,st⟩,sl⟩,rfl,VX hd (by omega),nY (y.get 2),λb Z=>(y.new _ (aB (i:=2) rfl) b Z).resolve_right id⟩,y.fr⟩))
 |succ d ih=>
  intro i sl ks E hi hlen aa B;have W:∀(D:Int) (H:J) (L:List En),-1<=D->D<(l.length:Int)->O F0 w H [.g b8,.g kA,nX sl ks] [.gr s l]->iF.lX s m2 k3 b8 0 ⟨none,0,0⟩ 0 0 0 (bj #[]) 0 0 0 kA op sl n m u G st.k st.n st.x x (many:Int) (i:Int) D H λr A=>lV w r A/\ah w A:=by
   intro D H L h1 h2 y;refine aS (λh0=>y.af λS z=>⟨⟨⟨⟨-1,[],0,0,0,ba [],bg⟩,⟨none,0,0⟩⟩,rfl,⟨⟨by decide,by decide,by decide,by decide,by decide,by decide,λ_=>by decide,λY=>(by cases Y),λY=>(by cases Y)⟩,by decide⟩,Rd.nil S,λb Z=>by cases Z⟩,z.fr⟩) (λh0=>?_);refine y.iA 2 rU rfl (λs' S z=>?_) (by have:=qz (y.get 2);omega);have ag:O F0 w S [.g b8,.g kA,nX s' (ks++[D])] [.gr s l]:=by rw[nX,dX];exact z
   refine ag.af λh q=>?_;rw[bw _ (by omega)];refine ih (i+1) s' (ks++[D]) h (by omega) (by simp[hlen]) (λP C=>?_) q;rcases aL.1 C with C|C
   .exact aa P C
   .simp only[aE,aZ,a2]at C;omega
  refine iF.k8 _ _ _ _ _ _ _ _ _ _ _ _ _ _ _ _ _ _ _ _ _ _ _ _ _ _ _ _ (aT (aM (by omega)) (aS (λai=>aS (λak=>?_) (λak=>W x E [] ad ae B)) (λai=>W x E [] ad ae B)));obtain⟨T,rfl⟩:∃T:Nat,x=(T:Int):=⟨x.toNat,by omega⟩;refine B.av (Sk (bc.1 (B.getD 0)) op T (i:Int) m2 (by omega) hm) ?_;rintro _ H ⟨t,rfl⟩ y;refine⟨_,_,_,rfl,y.ay λab S z=>?_⟩;have V:∀(t:aU) (h:J),O F0 w h [.g b8,.g kA,nX sl ks,.g ab] [.gr s l]->iF.jV s m2 k3 b8 0 ⟨none,0,0⟩ 0 0 0 (bj #[]) 0 0 0 kA op sl n m u G st.k st.n st.x (T:Int) (many:Int) (i:Int) ab t.k t.n t.x h λr A=>lV w r A/\ah w A:=by intro t h q;have e5:aG .i64 (5 *(i:Int))=5 *(i:Int):=bm _ (by omega);have e6:aG .i64 (1+5 *(i:Int))=1+5 *(i:Int):=bm _ (by omega);refine⟨by rw[e5,e6];omega,q.af λw5 I=>I.av (AE (bc.1 (I.getD 0)) t _ (zM _) (by unfold eF;exact hl)) ?_⟩;rintro _ w6 ⟨an,rfl,al,am⟩ H6;exact⟨_,rfl,W an w6 [] al am (H6.take 3)⟩
  refine ax (λho=>ax (λh2=>?_) (λh2=>z.af λh q=>V t h q)) (λho=>z.af λh q=>V t h q);have hn:=qz (z.get 2);have M:ks[1]? =some (ks[1]'(by omega)):=a5 (by omega);have aj:=aa _ (aB M);generalize ks[1]'(by omega)=kk at M aj;refine⟨by omega,by omega,(nY (z.get 2)).cell M (j:=a1 1 *1) rfl λp hp _=>z.af λh q=>?_⟩;have ac:l[kk.toNat]? =some (l[kk.toNat]'(by omega)):=a5 (by omega);generalize l[kk.toNat]'(by omega)=e at ac;have F:h.cell? (p.add (a1 1 *1))=some (.int .i64 kk):=by have:=(nY (q.get 2)).cell M (j:=a1 1 *1) rfl (K:=λQ=>∃q',sl.a=some q'/\h.cell? (q'.add (a1 1 *1))=some (.int .i64 kk)) (λQ N F=>⟨Q,N,F⟩);rw[hp]at this;obtain⟨Q,N,F⟩:=this;cases N;exact F
  exact⟨kk,F,e4 (bc.1 (q.getD 0)) (i:=kk.toNat) (by omega) ac λQ N c=>⟨_,_,_,c.s0,c.s1,c.s2,q.af λw5 I=>V e.x.st w5 I⟩⟩
def Wv(Z:dx n1)(T:dx m2)(S:dx k3)(D:l.length<=eF){op n m u:Int}{j:ByteArray}{st:aU}(hd:MdV ⟨op,[],n,m,u,j,st⟩)(x:Int)(aa:0<=x)(V:x<(l.length:Int))(I:J)(H:O F0 w I [.g b8,.g kA] [.gr s l]):
  iF.bA s n1 m2 k3 b8 0 ⟨none,0,0⟩ 0 0 0 (bj #[]) 0 0 0 kA op ⟨none,0,0⟩ n m u j st.k st.n st.x x I λr h=>lV w r h/\ah w h:=by
 refine H.av (F8 op I) ?_;rintro _ z rfl q;have hr:=B3 op;have N:∀(x:Int) (d:J),-1<=x->x<(l.length:Int)->O F0 w d [.g b8,.g kA] [.gr s l]->iF.fG s m2 k3 b8 0 ⟨none,0,0⟩ 0 0 0 (bj #[]) 0 0 0 kA op ⟨none,0,0⟩ n m u j st.k st.n st.x x (cl op) d λr h=>lV w r h/\ah w h:=by
  intro x d B C y;have e:=y.h' bn 1;by_cases Y:cl op<0
  .refine iF.k8 _ _ _ _ _ _ _ _ _ _ _ _ _ _ _ _ _ _ _ _ _ _ _ _ _ _ _ _ (aV (aP (by omega)) (e.af λz q=>⟨⟨⟨⟨op,[],n,m,u,j,st⟩,⟨none,0,0⟩⟩,rfl,hd,Rd.nil z,λb Q=>by cases Q⟩,q.fr⟩))
  .have P:cl op=(((cl op).toNat:Nat):Int):=by omega
   show iF.hU _ _ _ _ _ _ _ _ _ _ _ _ _ _ _ _ _ _ _ _ _ _ _ _ (cl op) 0 _ _;rw[P];exact Wu T S D hd (cl op).toNat (by omega) x B C (cl op).toNat 0 ⟨none,0,0⟩ [] d (by omega) rfl (by simp) e
 have M:∀(x:Int) (d:J),-1<=x->x<(l.length:Int)->O F0 w d [.g b8,.g kA] [.gr s l]->iF.cv s n1 m2 k3 b8 0 ⟨none,0,0⟩ 0 0 0 (bj #[]) 0 0 0 kA op ⟨none,0,0⟩ n m u j st.k st.n st.x x (cl op) d λr h=>lV w r h/\ah w h:=by intro x d B C y;refine ax (λE=>y.av (ff 8 d) ?_) (λE=>N x d B C y);rintro _ W rfl e;refine⟨_,_,_,rfl,e.av (AE (bc.1 (e.getD 0)) (a' 8) _ (zM _) D) ?_⟩;rintro _ K ⟨L,rfl,F,G⟩ A;exact⟨_,rfl,N L K F G A⟩
 refine⟨_,rfl,ax (λE=>q.av (ff 1 z) ?_) (λE=>M x z (by omega) V q)⟩;rintro _ W rfl e;refine⟨_,_,_,rfl,e.av (AE (bc.1 (e.getD 0)) (a' 1) _ (zM _) D) ?_⟩;rintro _ K ⟨L,rfl,F,G⟩ A;exact⟨_,rfl,M L K F G A⟩
end
def opsL:List Int:=[4,5,6,7,8,9,10,11,12,13,14,15,16,17,18,19,20,21,22,23,24,25,26,27,28,29,30,31,32,33,34,1,2,3,18,18,16,6,24,25]
def WW{i:Nat}{op:Int}(e:opsL[i]? =some op):1<=op/\op<=34:=by
 have h:(opsL.all λd=>ao (1<=d)&&ao (d<=34))=true:=by decide
 have:=dK.1 h op (aB e);simpa using this
def ZC{i:Nat}{t:ByteArray}(d:nj[i]? =some t):t.size<=16:=by
 have e:(nj.all λh=>ao (h.size<=16))=true:=by decide
 have:=dK.1 e t (aB d);simpa using this
def Gq{w:J}{s:Sl}{l:List Nd}(h:GP w s l)(aH:1<=l.length)(hl:l.length<=eF)(hv:∀ap∈l,bo ap.x.st=true)(C d B:Int)(hn:dx C)(N:dx d)(hk:dx B):
  aj U Kl #[s.v,.i C,.i d,.i B] w λr z=>lV w r z/\ah w z:=by
 have hs:=h6 h;refine iF.au _ _ _ _ w _ ((xM h).ay λM w1 H1=>H1.nw λw2 _ H2=>H2.av (jG C 40 w2 (by omega) hn) ?_);have hr:=ky C 40 (by omega);generalize gv C 40=an at hr;rintro _ w3 rfl H3;obtain⟨j,rfl⟩:∃j:Nat,an=(j:Int):=⟨an.toNat,by omega⟩;have ag:opsL[j]? =some (opsL[j]'(by show j<40;omega)):=a5 _;have ak:=WW ag;generalize opsL[j]'(by show j<40;omega)=op at ag ak;have ab:bW w3 ⟨some (ad w1.heap.size),40,40⟩ opsL:=Az (T:=bn) (H3.ob 1) rfl;refine⟨_,rfl,by omega,by show(j:Int)<40;omega,ab.cell ag (by omega) λp hp S=>⟨op,S,H3.ay λL w4 H4=>H4.af λw5 H5=>H5.av (jG _ _ w5 (by omega) (zM _)) ?_⟩⟩;have aC:=ky (aG .i64 (eP C 64)) ((s.n:Nat):Int) (by omega);generalize gv (aG .i64 (eP C 64)) ((s.n:Nat):Int)=P at aC;rintro _ H rfl E;have I:∀{n m u:Int} {Y:ByteArray} {st:aU} {A:J},MdV ⟨op,[],n,m,u,Y,st⟩->O F0 w A [.g M,.g L] [.gr s l]->iF.bA s C d B M 0 ⟨none,0,0⟩ 0 0 0 (bj #[]) 0 0 0 L op ⟨none,0,0⟩ n m u Y st.k st.n st.x P A λr z=>lV w r z/\ah w z:=λhd q=>Wv hn N hk hl hd P (by omega) (by omega) _ q;have E:O F0 w H [.g M,.g L] [.gr s l]:=E.lH [true,false,true];have em:bj #[]=ba []:=rfl;have base:∀{n m u:Int} {Y:ByteArray} {st:aU},0<=n/\n<=100->0<=m/\m<=100->0<=u/\u<=1000->(op≠33->Y.size<=16)->(op=33->∃ai,Y=ba (ng ai))->(op=2->Y∈nj)->MdV ⟨op,[],n,m,u,Y,st⟩:=λh1 h2 h3 h4 h5 ac=>⟨⟨by show -1<=op;omega,ak.2,by simp,h1,h2,h3,h4,h5,ac⟩,by show op≠0;omega⟩;have D:(0:Int)<=0/\(0:Int)<=100:=by decide
 have Z:(0:Int)<=0/\(0:Int)<=1000:=by decide
 refine⟨_,rfl,ax (λh1=>?_) (λh1=>ax (λh2=>?_) (λh2=>ax (λh3=>?_) (λh3=>ax (λh4=>?_) (λh4=>?_))))⟩
 .refine E.av (jG d 3 H (by omega) N) ?_;have ar:=ky d 3 (by omega);generalize gv d 3=v at ar;rintro _ A rfl q;refine⟨_,rfl,?_⟩;have S1:∀(G:Int),1<=G->G<=7->iF.bb s C d B M 0 ⟨none,0,0⟩ 0 0 0 (bj #[]) 0 0 0 L op ⟨none,0,0⟩ 0 0 0 (bj #[]) 0 0 0 P G A λr z=>lV w r z/\ah w z:=by
   intro G h5 ac;refine q.av (ff G A) ?_;rintro _ F rfl y;have S:∃c:Nat,(if 3<G then(3:Int)else G)=(c:Int)/\1<=c/\c<=3:=⟨(if 3<G then(3:Int)else G).toNat,by split<;>omega,by split<;>omega,by split<;>omega⟩;obtain⟨c,S,aE,aF⟩:=S;rw[S];have ec:aG .u64 (c:Int)=(c:Int):=IntWalk.u64_in _ (by omega);rw[ec];have ep:∃W:Int,aG .i64 (1 *2^min (a1 (c:Int)) (IntKind.bits .i64))=W/\1<=W/\W<=8:=by
    have:c=1\/c=2\/c=3:=by omega
    rcases this with rfl|rfl|rfl
    .exact ⟨2,by decide,by decide,by decide⟩
    .exact ⟨4,by decide,by decide,by decide⟩
    .exact ⟨8,by decide,by decide,by decide⟩
   obtain⟨W,eq,q1,q2⟩:=ep;rw[eq];refine⟨_,_,_,rfl,by omega,y.af λw9 Q=>Q.av (jG B W w9 (by omega) hk) ?_⟩;have aA:=ky B W (by omega);generalize gv B W=a at aA;rintro _ aD rfl ae;have ea:aG .u64 a=a:=IntWalk.u64_in _ (by omega);refine⟨_,rfl,ae.af λaJ ao=>?_⟩;rw[ea];exact I (st:=a' G) (base D D (by omega) (λ_=>by decide) (λh=>by omega) (λh=>by omega)) ao
  have e1:aG .i64 (1+v)=1+v:=bm _ (by omega);show iF.aX s C d B M 0 ⟨none,0,0⟩ 0 0 0 _ 0 0 0 L op ⟨none,0,0⟩ 0 0 0 _ 0 0 0 P (aG .i64 (1+v)) A _;rw[e1];exact ax (λ_=>S1 7 (by decide) (by decide)) (λ_=>S1 _ (by omega) (by omega))
 .refine E.nw λA _ q=>q.av (jG d 6 A (by omega) N) ?_;have aw:=ky d 6 (by omega);generalize gv d 6=v at aw;rintro _ F rfl y;obtain⟨i,rfl⟩:∃i:Nat,v=(i:Int):=⟨v.toNat,by omega⟩;have V:nj[i]? =some (nj[i]'(by show i<6;omega)):=a5 _;have am:=ZC V;generalize nj[i]'(by show i<6;omega)=t at V am;have ab:Rd F ⟨some (ad H.heap.size),6,6⟩ (nj.map Value.string):=oH (T:=fk) (y.ob 2) rfl;refine⟨_,rfl,by omega,by show(i:Int)<6;omega,Rd.get ab (i:=i) (v:=.string t) (by simp[V]) (by omega) λp hp S=>⟨t,S,y.af λw9 Q=>?_⟩⟩;exact I (st:=bg) (base D D Z (λ_=>am) (λh=>by omega) (λ_=>aB V)) (Q.take 2)
 .refine E.nw λA _ q=>q.av (jG d 2 A (by omega) N) ?_;have aa:=ky d 2 (by omega);generalize gv d 2=v at aa;rintro _ F rfl y;obtain⟨i,rfl⟩:∃i:Nat,v=(i:Int):=⟨v.toNat,by omega⟩;have V:([⟨2,2,1⟩,⟨3,1,1⟩]:List aU)[i]? =some (([⟨2,2,1⟩,⟨3,1,1⟩]:List aU)[i]'(by show i<2;omega)):=a5 _;generalize([⟨2,2,1⟩,⟨3,1,1⟩]:List aU)[i]'(by show i<2;omega)=t at V;have ab:br 3 F ⟨some (ad H.heap.size),2,2⟩ (([⟨2,2,1⟩,⟨3,1,1⟩]:List aU).flatMap gl):=uc (T:=bR) (y.ob 2) rfl;obtain⟨g1,g2,g3⟩:=dY ab rfl V (K:=λp=>IW F (p.add (a1 (i:Int) *3)) λa b c=>loc [M,L] F λw9=>iF.bA s C d B M 0 ⟨none,0,0⟩ 0 0 0 (bj #[]) 0 0 0 L op ⟨none,0,0⟩ 0 0 0 (bj #[]) a b c P w9 λr z=>lV w r z/\ah w z) (λp hp c=>⟨_,_,_,c.c0,c.c1,c.c2,y.af λw9 Q=>I (st:=t) (base D D Z (λ_=>by decide) (λh=>by omega) (λh=>by omega)) (Q.take 2)⟩);exact⟨_,rfl,g1,g2,g3⟩
 .obtain ⟨xn,rfl⟩:∃xn:Nat,P=(xn:Int):=⟨P.toNat,by omega⟩;have hg:l[xn]? =some (l[xn]'(by omega)):=a5 (by omega);generalize l[xn]'(by omega)=e at hg;have aI:=lN (hv e (aB hg));refine e4 (bc.1 (E.getD 0)) rfl hg λp hp c=>⟨_,c.s1,E.av (jG d _ H (by split<;>omega) N) ?_⟩;have al:=ky d (if 1<e.x.st.n then e.x.st.n else 1) (by split<;>omega);generalize gv d (if 1<e.x.st.n then e.x.st.n else 1)=a at al;have ha:a<64:=by have:=al.2;split at this<;>omega
  rintro _ A rfl q;have e1:aG .i64 (a+1)=a+1:=bm _ (by omega);refine⟨_,rfl,q.af λF y=>y.av (jG B _ F (by rw[e1];omega) hk) ?_⟩;rw[e1];have az:=ky B (a+1) (by omega);generalize gv B (a+1)=b at az;rintro _ w9 rfl Q;exact⟨_,rfl,Q.af λaD ae=>I (st:=bg) (base (by omega) (by omega) Z (λ_=>by decide) (λh=>by omega) (λh=>by omega)) ae⟩
 have S8:op≠33->iF.pI s C d B M 0 ⟨none,0,0⟩ 0 0 0 (bj #[]) 0 0 0 L op ⟨none,0,0⟩ 0 0 0 (bj #[]) 0 0 0 P H λr z=>lV w r z/\ah w z:=by intro aq;refine E.av (jG d 2 H (by omega) N) ?_;have aa:=ky d 2 (by omega);generalize gv d 2=v at aa;rintro _ A rfl q;have e1:aG .i64 (1+v)=1+v:=bm _ (by omega);refine⟨_,rfl,q.af λF y=>?_⟩;rw[e1];exact I (st:=bg) (base (by omega) D Z (λ_=>by decide) (λh=>absurd h aq) (λh=>by omega)) y
 refine ax (λh5=>aT (beq_iff_eq.2 h5) (S8 (by omega))) (λh5=>ax (λac=>S8 (by omega)) (λac=>ax (λh7=>?_) (λh7=>ax (λh8=>E.av (RE d N H) ?_) (λh8=>I (st:=bg) (base D D Z (λ_=>by decide) (λh=>absurd h h8) (λh=>by omega)) E))))
 .refine E.av (jG d 3 H (by omega) N) ?_;have aa:=ky d 3 (by omega);generalize gv d 3=v at aa;rintro _ A rfl q;exact⟨_,rfl,q.af λF y=>I (st:=bg) (base (by omega) D Z (λ_=>by decide) (λh=>by omega) (λh=>by omega)) y⟩
 .rintro _ A ⟨ai,rfl⟩ q;exact⟨_,rfl,q.af λF y=>I (st:=bg) (base D D Z (λh=>absurd h8 h) (λ_=>⟨ai,rfl⟩) (λh=>by omega)) y⟩
def Bw(t:BL):Bool:=match g6 t with
 |.inr d=>Nat.ble (da (cu d.tp)) 12
 |.inl _=>true
def pW(t:BL):Bool:=(match rJ t with
 |some b=>iO t==b
 |none=>false)&&Bw t&&Nat.ble t.length 30
def iE(i:Nat):Bool:=(List.range 108).all (λd=>pW (ng (108 *i+d)))
def T3:iE 0=true:=by kernel_rfl
def T4:iE 1=true:=by kernel_rfl
def Ub:iE 2=true:=by kernel_rfl
def Uc:iE 3=true:=by kernel_rfl
def Ud:iE 4=true:=by kernel_rfl
def Ue:iE 5=true:=by kernel_rfl
def Uf:iE 6=true:=by kernel_rfl
def Ug:iE 7=true:=by kernel_rfl
def Uh:iE 8=true:=by kernel_rfl
def Ui:iE 9=true:=by kernel_rfl
def T5:iE 10=true:=by kernel_rfl
def T6:iE 11=true:=by kernel_rfl
def T7:iE 12=true:=by kernel_rfl
def T8:iE 13=true:=by kernel_rfl
def T':iE 14=true:=by kernel_rfl
def Ua:iE 15=true:=by kernel_rfl
def T2:∀i,i<16->iE i=true:=by
 intro i e
 match i,e with
 |0,_=>exact T3
 |1,_=>exact T4
 |2,_=>exact Ub
 |3,_=>exact Uc
 |4,_=>exact Ud
 |5,_=>exact Ue
 |6,_=>exact Uf
 |7,_=>exact Ug
 |8,_=>exact Uh
 |9,_=>exact Ui
 |10,_=>exact T5
 |11,_=>exact T6
 |12,_=>exact T7
 |13,_=>exact T8
 |14,_=>exact T'
 |15,_=>exact Ua
 |n+16,d=>exact absurd d (by omega)
def T1(k:Nat)(h:k<1728):pW (ng k)=true:=by
 have d:=T2 (k / 108) (by omega);have e:=dK.1 d (k%108) (List.mem_range.2 (Nat.mod_lt _ (by omega)))
 rwa[Nat.div_add_mod]at e
def By:List BL:=[[],[97],[65],[115,101,118,101,110,116,101,101,110,45,108,101,116,116,101,114,115],[97,45,49],[45],[40],[122,122],[97,98],[98],[0],[97,97],[99],[100],[109],[110],[115],[116],[105],[122]]
def TL:By.all pW=true:=by kernel_rfl
def rm(t:ByteArray):Prop:=bl t∈By\/∃d,t=ba (ng d)
def Dl{t:ByteArray}(d:rm t):pW (bl t)=true:=by
 rcases d with d|⟨e,rfl⟩
 .exact dK.1 TL _ d
 .rw [kC,Zt];exact T1 (e%1728) (Nat.mod_lt _ (by omega))
def Mo{t:ByteArray}(e:rm t):t.size<=30:=by
 have d:=Dl e;unfold pW at d;simp only[a9]at d;have h:=Nat.le_of_ble_eq_true d.2
 rwa[c9]at h
def WK{t:ByteArray}(j:rm t):∀d,g6 (bl t)=.inr d->iG 12 (cu d.tp):=λd k=>by have h:=Dl j;unfold pW at h;simp only[a9]at h;have e:=h.1.2;refine xn _ ?_;unfold Bw at e;rw[k]at e;exact Nat.le_of_ble_eq_true e
def Dm{t:ByteArray}(q:rm t):wI t/\pE t/\t.size<=100:=by
 have j:=Dl q;unfold pW at j;simp only[a9]at j;obtain⟨⟨d,e⟩,h⟩:=j;have h:=Nat.le_of_ble_eq_true h;rw[c9]at h;have x:pE t:=Wy t λy w=>xn _ (by unfold Bw at e;rw[w]at e;exact Nat.le_of_ble_eq_true e)
 refine⟨⟨by omega,?_⟩,x,by omega⟩;cases k:rJ (bl t)with
 |none=>rw[k]at d;cases d
 |some b=>
  rw[k]at d;have d:=eq_of_beq d;unfold kD;rw[d]
def MdN.ok{d:Nx}(e:MdN d):tP d:=by
 refine⟨by have:=e.kl;unfold eF;omega,?_,?_,λh=>?_⟩
 .have:=e.n;exact⟨by omega,by omega⟩
 .have:=e.m;exact⟨by omega,by omega⟩
 .exact (Dm (.inr (e.re h))).1
def kv.ok{g:List Nx}(d:kv g)(e:g.length<=eF):wx g:=⟨e,d.vg.val,d.vg.vars⟩
def QT(g:List Nx)(n:Nx):(b6 g n).1.length<=g.length+1:=by
 unfold b6;split
 .simp
 .split
  .simp
  .split
   .simp
   .simp
def wK{g:List Nx}{n:Nx}(d:(b6 g n).2.2=0):(bF g n).2=0/\∃k:Nat,(b6 g n).2.1=(k:Int)/\(b6 g n).1[k]? =some (dD n (bF g n).1)/\((b6 g n).1=g\/(dD n (bF g n).1∉g/\(b6 g n).1=g++[dD n (bF g n).1]/\k=g.length)):=by
 unfold b6 at d ⊢;split at d
 .rename_i e;exact absurd d e
 rename_i e;have e:(bF g n).2=0:=by omega
 refine⟨e,?_⟩;rw[ab (by omega)];cases h:e5 (dD n (bF g n).1) g 0 with
 |some i=>
  have:=xy h;rw[Nat.sub_zero]at this;exact⟨i,rfl,this.2,.inl rfl⟩
 |none=>
  rw[h]at d;dsimp only at d ⊢;split at d
  .cases d
  .rename_i j;rw[ab j];exact⟨g.length,rfl,by simp,.inr ⟨xw h,rfl,rfl⟩⟩
def FA{g:List Nx}{n:Nx}(e:Vg g)(h:(b6 g n).2.2=0):Vg (b6 g n).1:=by
 obtain⟨j,w,_,_,d⟩:=wK h;rcases d with d|⟨k,q,_⟩
 .rw [d];exact e
 .rw [q];exact .snoc e (B9 (by rw[<-j])) k
def QU{g:List Nx}{n:Nx}(j:kv g)(e:MdN n)(q:(b6 g n).2.2=0):kv (b6 g n).1:=by
 refine⟨FA j.vg q,λk d=>?_⟩;obtain⟨x,z,_,_,h⟩:=wK q;rcases h with h|⟨y,w,_⟩
 .rw [h]at d;exact j.nd k d
 .rw [w]at d;rcases aL.1 d with d|d
  .exact j.nd k d
  .simp only[aE,aZ,a2]at d;subst d;exact⟨e.Mu,e.Mw,e.kl,e.n,e.m,e.u,e.tx,e.re,e.li⟩
def kv.kl{l:List Nd}(e:kv (xs l)):∀d∈l,d.x.kids.length<=eF:=λd h=>by have:=(e.nd d.x (cz.2 ⟨d,h,rfl⟩)).kl;unfold eF;omega
def cW:Nat->List Nx->Nat->Nat
 |0,_,_=>0
 |f+1,g,i=>match g[i]? with
  |none=>1
  |some d=>d.kids.foldl (λh e=>h+cW f g e.toNat) 1
def fold_add(e:Int->Nat):∀(l:List Int) (d:Nat),l.foldl (λd h=>d+e h) d=d+l.foldl (λd h=>d+e h) 0
 |[],d=>by simp
 |h::l,d=>by rw[List.foldl_cons,List.foldl_cons,fold_add e l (d+e h),fold_add e l (0+e h)];omega
def Ia(e:Int->Nat)(b:Nat):∀(l:List Int),(∀d∈l,e d<=b)->l.foldl (λk d=>k+e d) 0<=l.length *b
 |[],_=>by simp
 |d::l,h=>by rw[List.foldl_cons,fold_add e l,List.length_cons,Nat.succ_mul];have q:=h d List.mem_cons_self;have w:=Ia e b l λd j=>h d (cH _ j);omega
def fold_congr(h j:Int->Nat):∀(l:List Int) (e:Nat),(∀d∈l,h d=j d)->l.foldl (λe d=>e+h d) e=l.foldl (λe d=>e+j d) e
 |[],_,_=>rfl
 |d::l,e,k=>by rw[List.foldl_cons,List.foldl_cons,k d List.mem_cons_self];exact fold_congr h j l _ λd q=>k d (cH _ q)
def Pc{g:List Nx}(h:∀d∈g,d.kids.length<=3):∀(f i:Nat),cW f g i<=4^f
 |0,_=>by simp[cW]
 |f+1,i=>by
  unfold cW;split
  .exact Nat.one_le_pow _ _ (by omega)
  .rename_i d k;rw[fold_add];have q:=Ia (λe=>cW f g e.toNat) (4^f) d.kids λe _=>Pc h f e.toNat;have j:=h d (aB k);have w:1<=4^f:=Nat.one_le_pow _ _ (by omega);have x:d.kids.length *4^f<=3 *4^f:=jm _ j;rw[Nat.pow_succ];omega
def Pd{g r:List Nx}(q:wA g):∀(f i:Nat),i<g.length->i<f->∀d,i<d->cW f (g++r) i=cW d g i
 |0,i,_,h,_,_=>absurd h (by omega)
 |f+1,i,e,h,0,j=>absurd j (by omega)
 |f+1,i,e,h,d+1,j=>by unfold cW;rw[List.getElem?_append_left e];have k:g[i]? =some (g[i]'e):=a5 e;rw[k];refine fold_congr _ _ _ _ λw x=>?_;obtain⟨y,z⟩:=q i _ k w x;exact Pd q f w.toNat (by omega) (by omega) d (by omega)
def GC{w:J}{s:Sl}{l:List Nd}(C:GP w s l)(aa:l.length<=30)(E:∀d∈xs l,d.kids.length<=3)(N:wA (xs l)):∀(n i:Nat),i<n->n<=30->i<l.length->∀B,ah w B->aj U Kn #[s.v,.i (i:Int)] B λr H=>r=ae (.i ((cW n (xs l) i:Nat):Int))/\ah w H
 |0,i,M,_,_,_,_=>absurd M (by omega)
 |n+1,i,M,ak,F,B,S=>by
  have A:∀{q:J},ah w q->GP q s l:=λf=>⟨C.1.cd f,λd Y=>(cg d).st w _ (λb K ab=>f.ck b ab id) (C.2 d Y)⟩;have z:l[i]? =some (l[i]'F):=a5 F;generalize l[i]'F=d at z;have G:=ou z;have k1:=E d.x (aB G);have k2:=N i d.x G;have hz:cW (n+1) (xs l) i=d.x.kids.foldl (λe h=>e+cW n (xs l) h.toNat) 1:=by
   conv=>lhs;unfold cW
   rw[G]
  have K:∀h,cW n (xs l) h<=4^n:=Pc E n;have O:4^n<=4^29:=Nat.pow_le_pow_right (by omega) (by omega);have am:(4:Nat)^29=288230376151711744:=by decide
  rw[hz];have loop:∀(m j:Nat) (e:Nat) (q:J),j+m=d.x.kids.length->e<=1+j *4^29->(d.x.kids.drop j).foldl (λe h=>e+cW n (xs l) h.toNat) e=d.x.kids.foldl (λe h=>e+cW n (xs l) h.toNat) 1->ah w q->r0.L0 s (i:Int) ((e:Nat):Int) (j:Int) q λr H=>r=ae (.i ((d.x.kids.foldl (λe h=>e+cW n (xs l) h.toNat) 1:Nat):Int))/\ah w H:=by
   intro m;induction m with
   |zero=>
    intro j e q hj ad k y;have hn:d.ks.n=d.x.kids.length:=bW.len ((A y).2 d (aB z));rw[de (by omega)]at k;have k:e=d.x.kids.foldl (λe h=>e+cW n (xs l) h.toNat) 1:=k;exact r0.cU _ _ _ _ _ _ (e4 (A y) rfl z λp O c=>⟨_,c.c1,aV (aP (by omega)) ⟨by rw[<-k],y⟩⟩)
   |succ m ih=>
    intro j e q hj ad k y;have L:bW q d.ks d.x.kids:=(A y).2 d (aB z);have hn:=bW.len L;have D:d.x.kids[j]? =some (d.x.kids[j]'(by omega)):=a5 (by omega);have Z:d.x.kids.drop j=d.x.kids[j]'(by omega)::d.x.kids.drop (j+1):=dk (by omega);rw[Z,List.foldl_cons]at k;generalize d.x.kids[j]'(by omega)=h at D k;have ag:=k2 h (aB D);refine r0.cU _ _ _ _ _ _ (e4 (A y) rfl z λp O c=>⟨_,c.c1,aT (aM (by omega)) (e4 (A y) rfl z λp' al Q=>⟨_,Q.c1,by omega,by omega,L.cell D (by omega) λan hq W=>⟨h,W,?_⟩⟩)⟩);have I:h=((h.toNat:Nat):Int):=by omega
    have V:=K h.toNat;generalize ai:h.toNat=kn at I k V;rw[I];refine(GC C aa E N n kn (by omega) (by omega) (by omega) q y).mono ?_;rintro _ P ⟨rfl,T⟩;refine⟨_,rfl,?_⟩;show r0.L0 s (i:Int) (aG .i64 ((e:Int)+((cW n (xs l) kn:Nat):Int))) (aG .i64 ((j:Int)+1)) P _;have ac:e+cW n (xs l) kn<=1+(j+1) *4^29:=by rw[Nat.succ_mul];omega
    have af:(j+1) *4^29<=3 *4^29:=jm _ (by omega);rw[bw _ (by omega),bm _ (by omega),show(e:Int)+((cW n (xs l) kn:Nat):Int)=((e+cW n (xs l) kn:Nat):Int)by omega];exact ih (j+1) _ P (by omega) ac k T
  exact r0.ok _ _ B _ (loop d.x.kids.length 0 1 B (by omega) (by omega) rfl S)
def QX{g:List Nx}{n e:Nx}(j:n.op≠0)(d:e∈(b6 g n).1)(h:e.op=0):e∈g:=by
 unfold b6 at d;split at d
 .cases d
 .split at d
  .exact d
  .split at d
   .cases d
   .rcases aL.1 d with d|d
    .exact d
    .rw [bX.1 d]at h;exact absurd h j
def VZ(kind:Int)(l:List Nd):Prop:=(∀d∈xs l,d.op=0->d∈xs (gm kind))/\(∃r,xs l=xs (gm kind)++r)/\∀i,i<l.length->cW (i+1) (xs l) i<=400
def rk(w:J)(kind:Int)(d:Nat)(r:cA)(V:J):Prop:=∃(s:Sl) (l:List Nd),r=ae s.v/\kv (xs l)/\1<=l.length/\l.length<=10+d/\GP V s l/\(∀b∈(En.gr s l).fp,w.heap.size<=b)/\VZ kind l
def Rz{w:J}{ls:Sl}{h:List Int}(aw:bW w ls h)(ac:∀x∈h,dx x)(a9:h.length<=9223372036854775807)(kind:Int)(C:Nat)(hm:C<=20):
  aj U Kb #[ls.v,.i kind,.i (C:Int)] w λr A=>rk w kind C r A/\ah w A:=by
 have hn:=bW.len aw;have loop:∀(m i:Nat) (y:Sl) (l:List Nd) (V:J),i+m=C->kv (xs l)->VZ kind l->1<=l.length->l.length<=10+i->(∀b∈(En.gr y l).fp,w.heap.size<=b)->O F0 w V [] [.rd ls (h.map ct),.gr y l]->
   mP.a0 ls kind (C:Int) y ((3 *i:Nat):Int) V λr A=>rk w kind C r A/\ah w A:=by
  intro m;have e3:aG .i64 (3 *(C:Int))=3 *(C:Int):=bm _ (by omega);induction m with
  |zero=>
   intro i y l V hi q M Q h2 S I;have fin:mP.cv y V λr A=>rk w kind C r A/\ah w A:=⟨⟨y,l,rfl,q,Q,by omega,bc.1 (I.getD 1),S,M⟩,I.fr⟩;exact mP.bJ _ _ _ _ _ _ _ (aS (λ_=>aV (aP (by rw[e3];omega)) fin) (λ_=>fin))
  |succ m ih=>
   intro i y l V hi q M Q h2 S I;have fin:mP.cv y V λr A=>rk w kind C r A/\ah w A:=⟨⟨y,l,rfl,q,Q,by omega,bc.1 (I.getD 1),S,M⟩,I.fr⟩;have aY:aG .i64 (((3 *i:Nat):Int)+1)=((3 *i+1:Nat):Int):=bm _ (by omega);have a1:aG .i64 (((3 *i:Nat):Int)+2)=((3 *i+2:Nat):Int):=bm _ (by omega);have a3:aG .i64 (((3 *i:Nat):Int)+3)=((3 *(i+1):Nat):Int):=bm _ (by omega);have next:∀(ab:Sl) (e:List Nd) (E:J),kv (xs e)->VZ kind e->1<=e.length->e.length<=10+(i+1)->(∀b∈(En.gr ab e).fp,w.heap.size<=b)->O F0 w E [] [.rd ls (h.map ct),.gr ab e]->mP.bA ls kind (C:Int) ab ((3 *i:Nat):Int) E λr A=>rk w kind C r A/\ah w A:=by intro ab e E Z gv g2 g3 g4 G;show mP.a0 ls kind (C:Int) ab (aG .i64 (((3 *i:Nat):Int)+3)) E _;rw[a3];exact ih (i+1) ab e E (by omega) Z gv g2 g3 g4 G
   have S1:∀(W:Nat) (d:Nd) (N:J) (L:List En),En.g W∈L->MdV d.x->d.P N->(∀b∈aN d.ks,w.heap.size<=b)->O F0 w N L [.rd ls (h.map ct),.gr y l,cg d]->mP.bb ls kind (C:Int) y ((3 *i:Nat):Int) W d.x.op d.ks d.x.n d.x.m d.x.u d.x.tx d.x.st.k d.x.st.n d.x.st.x N λr A=>rk w kind C r A/\ah w A:=by
    intro W d N L a6 z pd Y F;have aW:(xs l).length=l.length:=by simp[xs]
    have F:O F0 w N [] [.rd ls (h.map ct),.gr y l,cg d]:=F.take 0;refine jZ ((R7 (bc.1 (F.getD 1)) pd (q.ok (by rw[aW];unfold eF;omega)) z.toMdN.ok q.kl).mono ?_);rintro _ w4 ⟨⟨s',rfl,⟨e,T,G',F'⟩⟩,f4⟩;have ae:∀b∈(En.gr s' e).fp,w.heap.size<=b:=λb H=>by
     rcases F' b H with(D|D)|D
     .exact S b D
     .exact vB Y b D
     .exact bp F.fr.size D
    have H4:=F.cd f4;have ap:O F0 w w4 [] [.rd ls (h.map ct),.gr s' e]:=(F.ek (.gr s' e) f4 (bc.2 G') (λb H=>by
     rcases F' b H with(D|D)|D
     .exact .inr (.inr ⟨_,aB (i:=1) rfl,D⟩)
     .exact .inr (.inr ⟨_,aB (i:=2) rfl,D⟩)
     .exact .inl D)).forget _ (by simp)
    have aq:∀{w6:J},O F0 w w6 [] [.rd ls (h.map ct),.gr y l,cg d]->O F0 w w6 [] [.rd ls (h.map ct),.gr y l]:=λI=>I.forget _ (by simp);refine⟨f4,_,_,_,rfl,ax (λh0=>?_) (λh0=>next y l w4 q M Q (by omega) S (aq H4))⟩;obtain⟨_,aa,aD,av,aH⟩:=wK h0;have am:kv (xs e):=by rw[T];exact QU q z.toMdN h0
    have aU:∀B∈xs e,B.op=0->B∈xs (gm kind):=λB he D=>by rw[T]at he;exact M.1 B (QX z.nv he D) D
    obtain⟨xr,an⟩:∃xr,xs e=xs l++xr/\xr.length<=1:=by
     obtain⟨_,_,_,_,h3⟩:=wK h0;rcases h3 with h3|⟨_,h5,_⟩
     .exact ⟨[],by rw[T,h3,cP],by simp⟩
     .exact ⟨_,by rw[T];exact h5,by simp⟩
    have aJ:e.length<=10+(i+1):=by have:=QT (xs l) d.x;rw[<-T]at this;simp only[xs,mb]at this;omega
    rw[<-T]at av;have ad:aa<e.length:=by have:=(cr.1 av).1;simpa[xs]using this
    have al:e[aa]? =some (e[aa]'ad):=a5 ad;generalize e[aa]'ad=B at al;rw[aD];refine e4 (bc.1 (ap.getD 1)) rfl al λp hp c=>⟨_,_,_,c.s0,c.s1,c.s2,?_⟩;refine jZ ((Sm kind B.x.st w4).mono ?_);rintro _ E ⟨⟨b,rfl⟩,f5⟩;have G:=ap.cd f5;have ag:=aq (H4.cd f5);refine⟨f5,_,rfl,bh (λ_=>?_) (λ_=>next y l E q M Q (by omega) S ag)⟩;refine e4 (bc.1 (G.getD 1)) rfl al λp' ba c'=>⟨_,c'.s1,aS (λ_=>?_) (λ_=>next y l E q M Q (by omega) S ag)⟩;have aF:∀d∈xs e,d.kids.length<=3:=λd z=>(am.nd d z).kl;refine jZ ((GC (bc.1 (G.getD 1)) (by omega) aF am.vg.xG (aa+1) aa (by omega) (by omega) ad E (Fr.refl _ _)).mono ?_);rintro _ w6 ⟨rfl,f6⟩;have f6:ah E w6:=f6;refine⟨f6,_,rfl,aS (λhz=>next s' e w6 am ⟨aU,?_,λi hi=>?_⟩ (by omega) aJ ae (G.cd f6)) (λ_=>next y l w6 q M Q (by omega) S (ag.cd f6))⟩
    .obtain ⟨r0,aR⟩:=M.2.1;exact⟨r0++xr,by rw[an.1,aR,hr]⟩
    .have bd:(xs e).length=e.length:=by simp[xs]
     rcases Nat.lt_or_ge i l.length with ar|ar
     .rw [an.1,Pd q.vg.xG (i+1) i (by omega) (by omega) (i+1) (by omega)];exact M.2.2 i ar
     .have aK:=congrArg List.length an.1;rw[b']at aK;have aI:i=aa:=by
       have be:(xs l).length=l.length:=by simp[xs]
       rcases aH with B|⟨_,B,a4⟩
       .rw [<-T]at B;have:=congrArg List.length B;omega
       .rw [<-T]at B;have:=congrArg List.length B;rw[b']at this;simp only[List.length_singleton]at this;omega
      subst aI;omega
   refine mP.bJ _ _ _ _ _ _ _ ?_;rw[aY,a1,e3];refine aS (λa8=>aT (aM (by omega)) (I.dr λw2 H2=>?_)) (λ_=>fin);have ak:bW w2 ls h:=H2.getD 0;have g0:h[3 *i]? =some (h[3 *i]'(by omega)):=a5 (by omega);have Z:h[3 *i+1]? =some (h[3 *i+1]'(by omega)):=a5 (by omega);have g2:h[3 *i+2]? =some (h[3 *i+2]'(by omega)):=a5 (by omega);generalize h[3 *i]'(by omega)=x0 at g0;generalize h[3 *i+1]'(by omega)=x1 at Z;generalize h[3 *i+2]'(by omega)=x2 at g2;refine⟨by omega,by omega,ak.cell g0 (by omega) λp0 aL c0=>⟨x0,c0,by omega,by omega,ak.cell Z (by omega) λp1 aO c1=>⟨x1,c1,by omega,by omega,ak.cell g2 (by omega) λp2 aQ c2=>⟨x2,c2,?_,?_⟩⟩⟩⟩
   .have ai:=Gq (bc.1 (H2.getD 1)) Q (by unfold eF;omega) (λd z=>q.vg.val d.x (cz.2 ⟨d,z,rfl⟩)) x0 x1 x2 (ac _ (aB g0)) (ac _ (aB Z)) (ac _ (aB g2));refine H2.w5 ai ?_;rintro _ N ⟨d,rfl,z,pd,Y⟩ _ F3;have F:=F3.rd (cg d) pd (vB Y);refine⟨_,_,_,_,_,_,_,_,_,rfl,F.ay λW w4 H4=>H4.af λE G=>?_⟩;exact S1 W d E _ (by simp) z (G.getD 2) (λb H=>bp H2.fr.size (Y b H)) G
   .refine H2.ay λW N F=>?_;have aC:bW N ls h:=F.getD 0;have again:∀{j:Nat} {x:Int} {p:Addr} {X:Nat},h[j]? =some x->ls.a=some p->X=j *1->N.cell? (p.add X)=some (.int .i64 x):=by intro j x p X q hp hX;have:=aC.cell q hX (K:=λao=>∃q',ls.a=some q'/\N.cell? (q'.add X)=some (.int .i64 x)) (λao hq hc=>⟨ao,hq,hc⟩);rw[hp]at this;obtain⟨ao,hq,hc⟩:=this;cases hq;exact hc
    have ai:=Gq (bc.1 (F.getD 1)) Q (by unfold eF;omega) (λd z=>q.vg.val d.x (cz.2 ⟨d,z,rfl⟩)) x0 x1 x2 (ac _ (aB g0)) (ac _ (aB Z)) (ac _ (aB g2));refine⟨again g2 aQ (by omega),again Z aO (by omega),again g0 aL (by omega),F.gY ai ?_⟩;rintro _ w4 ⟨d,rfl,z,pd,Y⟩ _ F4;have H4:=F4.rd (cg d) pd (vB Y);refine⟨_,_,_,_,_,_,_,_,_,rfl,H4.af λE G=>?_⟩;exact S1 W d E _ (by simp) z (G.getD 2) (λb H=>bp F.fr.size (Y b H)) G
 refine mP.au _ _ _ w _ ((Sg kind w).mono ?_);rintro _ V ⟨⟨s,rfl,⟨l,hl,aA,az⟩⟩,f1⟩;have hlen:=YU kind;have a7:l.length=(gm kind).length:=by have:=congrArg List.length hl;simpa[xs]using this
 have ae:∀b∈(En.gr s l).fp,w.heap.size<=b:=λb H=>(az b H).resolve_left id;have I:O F0 w w [] [.rd ls (h.map ct)]:=bO _ (by intro B he;simp only[aE,aZ,a2]at he;subst he;exact aw)
 have H1:=I.ek (.gr s l) f1 (bc.2 aA) (λb H=>.inl (ae b H));have aX:∀i,i<l.length->cW (i+1) (xs l) i<=400:=λi hi=>by have q:(xs l)[i]? =some ((xs l)[i]'(by simp[xs];exact hi)):=a5 _;generalize(xs l)[i]'(by simp[xs];exact hi)=d at q;have z:d∈xs (gm kind):=hl▸aB q;obtain⟨B,he,rfl⟩:=cz.1 z;unfold cW;rw[q];show List.foldl _ 1 B.x.kids<=400;rw[(Ey B he).1];exact(by decide:1<=400)
 exact⟨s,rfl,loop C 0 s l V (by omega) (by rw[hl];exact YV kind) ⟨λd z _=>hl▸z,⟨[],by rw[hl,cP]⟩,aX⟩ (by omega) (by omega) ae H1⟩
section
variable {X:RC} {T:List aR} {E:bS} {Ms:List (List UInt8×(Sl×PM))}
def mW(q:Sl×PM):aa:=.agg #[q.1.v,.i ((q.2.b:Nat):Int),.i ((q.2.ix:Nat):Int)]
def lD(Ms:List (List UInt8×(Sl×PM)))(t:List UInt8):Sl×PM:=(lk Ms t).getD (⟨none,0,0⟩,⟨[],0,0⟩)
def u7(Ms:List (List UInt8×(Sl×PM)))(k:Nat)(t:List UInt8):Bool:=match lk Ms t with
 |some d=>ao (d.2.ix<k)
 |none=>false
def Nt{w:J}{D:List En}{s:aI}(z:(bf X s).P w)(A:gu w X.rb D)(x:gq X E Ms D)(t:List UInt8):
  aj U KN #[.pointer (some (ad X.rb)),.string (ba t)] w λr F=>r=ae (.tuple #[mW (lD Ms t),.bool (u7 Ms E.kn t)])/\ah w F:=by
 have y:=Ov z A;obtain⟨K,c,B,C⟩:=x.mm;refine MU.au _ _ w _ (y.ay λH L h=>⟨_,h.dB 0 6,(lD Ms t).1,((lD Ms t).2.b:Nat),((lD Ms t).2.ix:Nat),(lk Ms t).isSome,?_,h.ay λI M k=>?_⟩)
 .have j:=u4 xY (h.rd _ (cH _ B)) C (ba t);rw[show Ms.map oV=Ms.map λd=>(ba d.1,mW d.2)from rfl,mh mW]at j;rw[j];unfold lD;cases lk Ms t<;>rfl
 .unfold u7 lD;cases j:lk Ms t with
  |none=>exact aV rfl (k.af λG e=>⟨rfl,e.fr⟩)
  |some d=>
   refine aT rfl (k.af λG e=>⟨_,e.dB 0 8,e.af λN q=>⟨q.dB 0 8,?_,q.fr⟩⟩);have:ao ((((d.2.ix:Nat):Int))<X.kn)=ao (d.2.ix<E.kn):=by rw[x.kn];exact decide_eq_decide.2 (by omega)
   show Ending.returned (.tuple #[_,.bool (ao ((((d.2.ix:Nat):Int))<X.kn))])=_;rw[this];rfl
def ea(X:RC)(l:List Nd)(w:J){α:Type}(x:PR α)(k:α->aa->J->Prop):aC:=λr d=>match x with
 |.ok a e=>∃v,r=ae v/\k a v d/\∃h j,(bf {X with g:=h} e).P d/\GP d h j/\xs j=e.g/\(Vg e.g/\e.g.length<=4096)/\(∀b∈(En.gr h j).fp,b∈(En.gr X.g l).fp\/w.heap.size<=b)/\Fr (·∈[X.rb]) w d
 |.er q p=>r=.panicked (hl q p)/\Fr (·∈[X.rb]) w d
def nh{l:List Nd}{w V:J}{α:Type}{x:PR α}{j:α->aa->J->Prop}{a:α}{s':aI}{v:aa}{d:Sl}{h:List Nd}(e:x=.ok a s')(B:j a v V)(k:(bf {X with g:=d} s').P V)(y:GP V d h)(z:xs h=s'.g)(A:Vg s'.g/\s'.g.length<=4096)(q:∀b∈(En.gr d h).fp,b∈(En.gr X.g l).fp\/w.heap.size<=b)(f:Fr (·∈[X.rb]) w V):ea X l w x j (ae v) V:=by subst e;exact⟨v,rfl,B,d,h,k,y,z,A,q,f⟩
def fa{l:List Nd}{w V:J}{α:Type}{x:PR α}{d:α->aa->J->Prop}{e:Int}{p:Nat}(h:x=.er e p)(f:Fr (·∈[X.rb]) w V):ea X l w x d (.panicked (hl e p)) V:=by subst h;exact⟨rfl,f⟩
def QV{M:Nat->Prop}{w0 w V:J}{L D:List En}(H:O M w0 w L D)(i:Nat){e q d:En}(hi:L[i]? =some e)(f:Fr (·∈e.fp) w V)(G:q.P V)(C:q.fp=e.fp)(hd:d.P V)(z:∀b∈d.fp,w.heap.size<=b\/∃g∈D,b∈g.fp):O M w0 V (L.set i q) (D++[d]):=by
 have j:=H.fC i q hi f G (λb z=>.inl (C▸z));refine⟨j.fr,j.own,λg h=>?_,j.new,j.nd,λg h b A x y k=>?_⟩
 .rcases aL.1 h with h|h
  .exact j.rd g h
  .rw [bX.1 h];exact hd
 .rcases aL.1 h with h|h
  .exact j.dj g h b A x y k
  .rw [bX.1 h]at A;rcases z b A with B|⟨E,I,B⟩
   .have:b<w.heap.size:=by
     rcases List.mem_or_eq_of_mem_set y with F|rfl
     .exact x.lt w (H.own x F) b k
     .rw [C]at k;exact e.lt w (H.own e (aB hi)) b k
    omega
   .exact j.dj E I b B x y k
structure fo(X:RC)(l:List Nd)(s:aI)(D:List En):Prop where
 d:En.gr X.g l∈D
 x:xs l=s.g
 v:Vg s.g
 n:s.g.length<=4096
def fo.sub{l:List Nd}{s:aI}{D D':List En}(e:fo X l s D)(j:∀h∈D,h∈D'):fo X l s D':=⟨j _ e.d,e.x,e.v,e.n⟩
def kX{M:Nat->Prop}{w0 w:J}{L D:List En}{bs:List Nat}{l:List Nd}(H:O M w0 w L D)(i:Nat){s:aI}{α:Type}{x:PR α}{y:α->aa->J->Prop}{P:aw}{f:bU}{args:Array aa}{R K:aC}(hi:L[i]? =some (bf X s))(F:En.gr X.g l∈D)(C:aj P f args w (ea X l w x y))(I:∀a k h j v e,x=.ok a k->y a v e->fo {X with g:=h} j k (D++[.gr h j])->(∀b∈(En.gr h j).fp,b∈(En.gr X.g l).fp\/w0.heap.size<=b)->O M w0 e (L.set i (bf {X with g:=h} k)) (D++[.gr h j])->K (ae v) e)(E:∀q p e,x=.er q p->Fr M w0 e->R (.panicked (hl q p)) e)(B:∀b∈bs,En.g b∈L.eraseIdx i:=by simp):lf bs P f args R w K:=by
 refine C.mono λr e d=>?_;unfold ea at d;split at d
 .rename_i a k;obtain⟨v,rfl,Q,h,j,N,G,S,A,z,f⟩:=d;exact .inr ⟨⟨_,rfl⟩,B2 H hi f B,I a k h j v e rfl Q ⟨b0 _ (bX.2 rfl),S,A.1,A.2⟩ (λb d=>(z b d).imp id λd=>bp H.fr.size d) (QV H i hi f N rfl (bc.2 G) λb d=>(z b d).elim (λd=>.inr ⟨_,F,d⟩) .inl)⟩
 .rename_i q p;obtain⟨rfl,f⟩:=d;exact .inl ⟨_,rfl,E q p e rfl (BE H hi f)⟩
def QP{g:List Nx}{n:Nx}(j:g.length<=4096)(d:(b6 g n).2.2=0):(b6 g n).1.length<=4096:=by
 unfold b6 at d ⊢;split at d
 .rename_i e;exact absurd d e
 .rename_i e;rw[ab e];split at d
  .try exact j
  .split at d
   .cases d
   .rename_i h;try rw[ab h]
    rw[b'];simp;omega
def ZT{g:List Nx}(e:Vg g):∀d∈g,d.kids.length<=3:=λd h=>by obtain⟨i,j⟩:=List.mem_iff_getElem?.1 h;have k:=(e.vV i d j).kl;have q:=(B3 d.op).2;omega
def QQ{g:List Nx}{n:Nx}(d:(b6 g n).2.2=0):0<=(b6 g n).2.1:=by
 unfold b6 at d ⊢;split at d
 .rename_i e;exact absurd d e
 .rename_i e;rw[ab e];split at d
  .try exact Int.natCast_nonneg _
  .split at d
   .cases d
   .rename_i h;try rw[ab h]
    exact Int.natCast_nonneg _
def yO{w:J}{D:List En}{s:aI}{l:List Nd}{t:aR}{d:Nd}(G:(bf X s).P w)(hD:gu w X.rb D)(h:fo X l s D)(S:cO∈D)(hd:cg d∈D)(V:jW d.x):
  aj U sA #[.pointer (some (ad X.rb)),d.v,kY t] w (ea X l w (eR s d.x t) λk v _=>v=.i ((k:Nat):Int)):=by
 have F:=h.x;have hl:l.length=s.g.length:=by rw[<-F];simp[xs]
 have ah:=h.n;have T:∀K∈l,K.x.kids.length<=1000000000:=λK he=>by have:=ZT h.v K.x (F▸cz.2 ⟨K,he,rfl⟩);omega
 have fin:∀{H:J} {I:List En} {s':Sl} {y:List Nd} (E z:Nat),O (·∈[X.rb]) w H (bf X s::I) (D++[.gr s' y])->En.g z∈I->En.g E∈I->xs y=(b6 s.g d.x).1->(∀b∈(En.gr s' y).fp,b∈(En.gr X.g l).fp\/w.heap.size<=b)->
   DD.aX (ad X.rb) E t.kind (ba t.text) t.a3 z s' (b6 s.g d.x).2.1 (b6 s.g d.x).2.2 H (ea X l w (eR s d.x t) λk v _=>v=.i ((k:Nat):Int)):=λ{H I s' y} E z j ac ae A B=>by
  refine bY (λq=>fI j (iR _ _ t H) (λw' f=>fa (x:=eR s d.x t) (by unfold eR;rw[ab q]) f)) (λq=>?_);have q:(b6 s.g d.x).2.2=0:=q;have aa:eR s d.x t=.ok (b6 s.g d.x).2.1.toNat {s with g:=(b6 s.g d.x).1}:=by unfold eR;rw[ag q]
  have h1:=QQ q;refine j.gT 0 2 rfl (λW e=>nh aa ?_ (e.get 0) (bc.1 (e.rd _ (by simp))) A ⟨FA h.v q,QP h.n q⟩ B e.fr) (by simp) (by simp;exact .inr ac);show Value.i _=Value.i _;rw[show(((b6 s.g d.x).2.1.toNat:Nat):Int)=(b6 s.g d.x).2.1 by omega]
 refine DD.au (ad X.rb) d.x.op d.ks d.x.n d.x.m d.x.u d.x.tx d.x.st.k d.x.st.n d.x.st.x _ _ _ w _ ((jf rfl G hD).ay λb4 w1 Y=>Y.ay λE w2 Z=>Z.af λH j=>⟨X.g,by rw[add_add];exact j.ld 0 2,?_,?_⟩)
 .refine jZ ((Pg (bc.1 (j.rd _ h.d)) (j.rd _ hd) (j.rd _ S) V (by omega) (F▸h.v.val) T).mono ?_);rintro _ W ⟨⟨s',rfl,Q⟩,f⟩;obtain⟨y,A,N,B⟩:=Q.ex;have e:=j.ek (.gr s' y) f (bc.2 N) (λb C=>(B b C).elim (λG=>.inr (.inr ⟨_,h.d,G⟩)) .inl);rw[F]at A ⊢;exact⟨f,_,_,_,rfl,e.ay λz w5 L=>L.af λw6 M=>fin E z M (by simp) (by simp) A (λb C=>(B b C).imp id (bp j.fr.size))⟩
 .refine j.ay λz W e=>⟨by rw[add_add];exact e.ld 0 2,jZ ((Pg (bc.1 (e.rd _ h.d)) (e.rd _ hd) (e.rd _ S) V (by omega) (F▸h.v.val) T).mono ?_)⟩;rintro _ w5 ⟨⟨s',rfl,Q⟩,f⟩;obtain⟨y,A,N,B⟩:=Q.ex;have L:=e.ek (.gr s' y) f (bc.2 N) (λb C=>(B b C).elim (λG=>.inr (.inr ⟨_,h.d,G⟩)) .inl);rw[F]at A ⊢;exact⟨f,_,_,_,rfl,L.af λw6 M=>fin E z M (by simp) (by simp) A (λb C=>(B b C).imp id (bp e.fr.size))⟩
def WG(l:List UInt8)(x:∃d,(l=35::98::d/\1<=d.length/\d.length<=64/\jr 2 d)\/(l=35::120::d/\1<=d.length/\d.length<=16/\jr 16 d)):jW (e7 l):=by
 have:(e7 l).kids=[]/\(e7 l).n=0/\(e7 l).m=0/\0<=(e7 l).u/\(e7 l).op=1:=by unfold e7;split<;>exact⟨rfl,rfl,rfl,Int.natCast_nonneg _,rfl⟩
 obtain⟨h,j,k,q,w⟩:=this;exact⟨by rw[h];simp,by rw[j];exact⟨by omega,by omega⟩,by rw[k];exact⟨by omega,by omega⟩,q,by rw[w];intro e;cases e⟩
def Xw{w:J}{D:List En}{s:aI}{l:List Nd}{t:aR}(T:(bf X s).P w)(V:gu w X.rb D)(M:fo X l s D)(hk:cO∈D)(e:∃d,(t.text=35::98::d/\1<=d.length/\d.length<=64/\jr 2 d)\/(t.text=35::120::d/\1<=d.length/\d.length<=16/\jr 16 d)):
  aj U CF #[.pointer (some (ad X.rb)),kY t] w (ea X l w (eR s (e7 t.text) t) λk v _=>v=.i ((k:Nat):Int)):=by
 have go:∀(j:Nat) (q:J) (h:Nat) (sz:Nat) (c:UInt8) (d:List UInt8),(h=2\/h=16)->O (·∈[X.rb]) w q [bf X s,.g j] D->t.text=35::c::d->1<=d.length->h^d.length<=18446744073709551616->jr h d->d.length *sz<=64->d.length<=64->
   e7 t.text=⟨1,[],0,0,(cV h d:Int),ba [],⟨0,((d.length *sz:Nat):Int),0⟩⟩->jW (e7 t.text)->DG.aX (ad X.rb) j t.kind (ba t.text) t.a3 (h:Int) (sz:Int) q (ea X l w (eR s (e7 t.text) t) λk v _=>v=.i ((k:Nat):Int)):=λj q h sz c d I B e y z A h4 h5 K C=>by
  have N:(ba t.text).size=d.length+2:=by rw[bC,e];rfl
  have hx:(ba t.text).extract (a1 2) (ba t.text).size=ba d:=by rw[FR,N,e];show ba (((35::c::d).take (d.length+2)).drop 2)=ba d;rw[dM (by simp)];rfl
  refine⟨by decide,by omega,?_⟩;rw[hx];refine B.av (Yj I y z A q) ?_;rintro _ w2 rfl Q;refine⟨_,_,rfl,false,uY _ _,aV rfl ?_⟩;have H:aG .i64 ((aG .i64 ((((ba t.text).size:Nat):Int) - 2)) *(sz:Int))=((d.length *sz:Nat):Int):=by rw[N,bm (((d.length+2:Nat):Int) - 2) (by omega),show((d.length+2:Nat):Int) - 2=((d.length:Nat):Int)by omega,<-Int.natCast_mul,bm _ (by omega)]
  have F:=Q.ek (cg ⟨e7 t.text,⟨none,0,0⟩⟩) (Fr.refl _ _) (by show Rd w2 _ ((e7 t.text).kids.map ct);rw[K];exact Rd.nil _) (λb I=>by have:b∈(En.rd ⟨none,0,0⟩ ((e7 t.text).kids.map ct)).fp:=I;rw[K]at this;cases this)
  have L:=yO (t:=t) (F.get 0) (cF F (i:=0) rfl rfl) (M.sub λH Z=>bz _ Z) (bz _ hk) (b0 _ (bX.2 rfl)) C;show lf [j] _ _ #[.pointer (some (ad X.rb)),.agg #[.i 1,.slice none 0 0,.i 0,.i 0,.u (cV h d:Int),.string (ba []),.i 0,.i (aG .i64 ((aG .i64 ((((ba t.text).size:Nat):Int) - 2)) *(sz:Int))),.i 0],kY t] _ _ _;rw[H];have hv:(⟨e7 t.text,⟨none,0,0⟩⟩:Nd).v=.agg #[.i 1,.slice none 0 0,.i 0,.i 0,.u (cV h d:Int),.string (ba []),.i 0,.i ((d.length *sz:Nat):Int),.i 0]:=by show Value.agg #[.i (e7 t.text).op,_,.i (e7 t.text).n,.i (e7 t.text).m,.u (e7 t.text).u,.string (e7 t.text).tx,.i (e7 t.text).st.k,.i (e7 t.text).st.n,.i (e7 t.text).st.x]=_;rw[K]
  rw[hv]at L;exact kX F 0 rfl (bz _ M.d) L (λk s' g' l' v w4 S aa E W G=>⟨_,aa▸rfl,nh S rfl (G.get 0) (bc.1 (G.rd _ E.d)) E.x ⟨E.v,E.n⟩ W G.fr⟩) (λH p w' er f=>fa er f)
 refine DG.au _ _ _ _ w _ ((jf rfl T V).ay λj q B=>?_);have C:=WG t.text e;obtain⟨d,Y⟩:=e;rcases Y with⟨e,y,z,A⟩|⟨e,y,z,A⟩
 .refine ⟨by decide,98,by rw[Av,e];rfl,aV rfl (go j q 2 1 98 d (.inl rfl) B e y ?_ A (by omega) (by omega) ?_ C)⟩
  .exact bp (Nat.pow_le_pow_right (by decide) z) (by decide)
  .rw [e];show(⟨1,[],0,0,_,ba [],a' (((35::98::d).length - 2:Nat):Int)⟩:Nx)=_;simp[a']
 .refine ⟨by decide,120,by rw[Av,e];rfl,aT rfl (go j q 16 4 120 d (.inr rfl) B e y ?_ A (by omega) (by omega) ?_ C)⟩
  .exact bp (Nat.pow_le_pow_right (by decide) z) (by decide)
  .rw [e];show(⟨1,[],0,0,_,ba [],a' ((((35::120::d).length - 2) *4:Nat):Int)⟩:Nx)=_;simp[a']
end
section
variable {X:RC} {T:List aR}
def Xy{N:Nat}(hS:k' N)(hN:N+1<=1000000)(hf:∀t∈T,t.kind=5->∀ae,g6 t.text=.inr ae->iG N (cu ae.tp)){w:J}{D:List En}{s:aI}(k:(bf X s).P w)(ah:gu w X.rb D)(hT:mE X T D)(hp:s.p<T.length):
  aj U CG #[.pointer (some (ad X.rb))] w (hD X w (pa T s) λt=>.string (ba t)):=by
 refine yE.au _ w _ (ew (jf rfl k ah) 0 rfl (hO k ah hT hp) (λt Z w1 e1 H1=>⟨_,_,_,rfl,H1.ay λy w2 H2=>H2.af λw3 Q=>?_⟩) (λe p w1 er f=>jF (fe er) f));obtain⟨Y,h2,z⟩:=oZ e1;have H:=hf t (Y▸(pq hp).1) h2;have E0:pa T s=if(gP t.text).2=0 then .ok (gP t.text).1 Z else .er (gP t.text).2 t.a3:=eS e1;have Q:O (·∈[X.rb]) w w3 [bf X Z,.g y] D:=Q;clear Y h2 z;have W:∀{V:J} {L' D':List En} (e:Int) (u:List UInt8),O (·∈[X.rb]) w V (bf X Z::L') D'->gP t.text=(u,e)->yE.bb (ad X.rb) y t.kind (ba t.text) t.a3 e (ba u) V (hD X w (pa T s) λt=>.string (ba t)):=λ{V L' D'} e u C d=>
  bY (λh0=>fI C (iR _ e t V) λap f=>jF (E0.trans (by rw[d];exact ab h0)) f) (λh0=>va (val:=λt=>.string (ba t)) (E0.trans (by rw[d];exact ag h0)) (C.get 0) C.fr)
 have bad:∀{M:J} {D':List En} (e:Int),e≠0->gP t.text=([],e)->O (·∈[X.rb]) w M [bf X Z,.g y] D'->∀(A:Nat->J->Prop) (x0 x1 x2:Int) (sl:Sl),sG [y] M λF w7=>bq (e==0) (A F w7) (loc [y,F] w7 λak=>yE.aX (ad X.rb) y t.kind (ba t.text) t.a3 F x0 x1 x2 sl e ak (hD X w (pa T s) λt=>.string (ba t))):=λ{M D'} e G d C A x0 x1 x2 sl=>
  C.ay λF w7 H7=>ax (λk=>absurd k G) (λ_=>H7.af λw8 q=>ax (λk=>absurd k G) (λ_=>W e [] q d))
 have hz:=bC t.text;refine jZ ((Ga _ w3).mono ?_);rintro r w4 ⟨f4,d⟩;refine⟨f4,?_⟩;have E:=Q.cd f4;rcases d with⟨Y,rfl⟩|⟨Y,res,am,⟨a,rfl,rfl⟩|⟨j,rfl,⟨z,rfl⟩|⟨z,u,rfl,K,pt,ft⟩⟩⟩
 .exact ⟨_,_,_,⟨none,0,0⟩,_,_,rfl,bad 4 (by decide) (by unfold gP;rw[ag (by omega)]) E _ _ _ _ _⟩
 all_goals have h4:¬4096<t.text.length:=by omega
 all_goals have h:=PU am
 all_goals rw[kC]at h
 .have h:Sum.inl a=g6 t.text:=h;exact⟨_,_,_,⟨none,0,0⟩,_,_,rfl,bad 2 (by decide) (by unfold gP;rw[ab h4,<-h]) E _ _ _ _ _⟩
 .have h:Sum.inr (eU j)=g6 t.text:=h;exact⟨_,_,_,⟨none,0,0⟩,_,_,rfl,bad 4 (by decide) (by unfold gP;rw[ab h4,<-h];dsimp only;rw[r5,ag z]) E _ _ _ _ _⟩
 .have h:Sum.inr (eU j)=g6 t.text:=h;have H:=H _ h.symm;rw[r5]at H;have d:gP t.text=if jI (cu j.tp)=0 then(if hR (fw (cu j.tp))=0 then(cy 0 (fw (cu j.tp)) (a6 (fw (cu j.tp))),0)else([],hR (fw (cu j.tp))))else([],jI (cu j.tp)):=by unfold gP;rw[ab h4,<-h];dsimp only;rw[r5,ab (by omega)]
  generalize cu j.tp=x at K H d z;have E:=Q.ek (.tree u) f4 pt (λb hb=>.inl (ft b (a4.1 hb)));have ao:u.sz<=64:=by rw[<-I.dR,K];exact z
  refine⟨_,_,_,u.s,_,_,rfl,E.ay λF w5 H5=>ax (λ_=>H5.af λM H6=>?_) (λk=>absurd rfl k)⟩;refine H6.gY (F' hS hN u M (by omega) (by rw[K];exact H) (H6.rd (.tree u) (by simp))) ?_;rintro _ w7 ⟨v,rfl,L,pu,fu⟩ _ F7;rw[K]at L;rw[K];have H7:=F7.rd (.tree v) pu λb hb=>fu b (a4.1 hb);refine⟨_,_,_,v.s,_,rfl,H7.af λw8 q=>ax (λG=>?_) (λaa=>W _ [] q (by rw[d,ab aa]))⟩;rw[ag G]at d;have ai:v.sz<=1000000:=by
   rw[<-I.dR,L];have:jI x=0:=G;unfold jI at this;unfold fw;split at this
   .rename_i B;rw[ag B];unfold nP at this;unfold nQ;split at this
    .cases this
    .rename_i al;rw[ab al];omega
   .rename_i B;exact absurd this B
  have pv:=q.rd (.tree v) (by simp);refine jZ (DZ.au _ _ _ _ w8 _ ((ga pv).ay λb1 w9 K9=>K9.av (AG v w9 ai (K9.getD 0)) ?_));rintro _ an rfl S;rw[L];refine⟨_,rfl,bY (λaa=>⟨S.fr,_,_,rfl,W _ [] (q.cd S.fr) (by rw[d,ab aa])⟩) (λB=>S.av (MJ v 0 an ai (by omega) ?_ (S.getD 0)) ?_)⟩
  .exact BH _ (by rw[L];exact(zB B).1)
  .rintro _ ak rfl ac;refine⟨_,rfl,ac.fr,_,_,rfl,W 0 _ (q.cd ac.fr) (by rw[d,ag B,L])⟩
end
def gq.sub{X:RC}{E:bS}{j:List (List UInt8×(Sl×PM))}{D D':List En}(F:gq X E j D)(g:Sl)(d:∀z∈D,z∈D'):gq {X with g:=g} E j D':=by
 obtain⟨⟨t,W⟩,⟨A,q,M,S⟩,⟨B,w,N,T⟩,⟨C,x,O,V⟩,ms,P,h,L,y,K⟩:=F;refine⟨⟨d _ t,W⟩,⟨A,q,d _ M,S⟩,⟨B,w,d _ N,T⟩,⟨C,x,d _ O,V⟩,ms,λQ I=>d _ (P Q I),?_,L,y,d _ K⟩;show match X.pm with
  |none=>E.pm=[]
  |some b=>∃e c,En.ob b (.map e c)∈D'/\eG e (E.pm.map hS)
 cases k:X.pm with
 |none=>rw[k]at h;exact h
 |some b=>
  rw[k]at h;obtain⟨e,c,G,H⟩:=h;exact⟨e,c,d _ G,H⟩
def hE(E:bS)(d:List (List UInt8×(Sl×PM)))(tm:aI->PR Nat)(p0:Nat):Prop:=∀(X:RC) (w:J) (D:List En) (s:aI) (l:List Nd),(bf X s).P w->gu w X.rb D->gq X E d D->fo X l s D->ei E s.g->p0<=s.p->s.p<E.T.length->s.tm<=65536->
 aj U oY #[.pointer (some (ad X.rb))] w (ea X l w (tm s) λk v _=>v=.i ((k:Nat):Int))
def qq(w:J)(n:Nx)(v:aa)(V:J):Prop:=∃d:Nd,d.x=n/\v=d.v/\d.P V/\∀b∈(cg d).fp,w.heap.size<=b
section
variable {E:bS} {Ms:List (List UInt8×(Sl×PM))} {tm:aI->PR Nat} {p0:Nat}
def V'(hC:hE E Ms tm p0)(hI:jt E tm p0){X0:RC}{l0:List Nd}{w:J}{x:PR Nx}{hd:Nx}{G H:Nat}{o0 o2 o3 o4 o6 o7 o8:Int}{o1:Sl}{o5:ByteArray}{N:Nat}(hN:N<=1000):∀(n i:Nat) (g:Sl) (B:J) (s:aI) (l:List Nd) (D:List En) (kd:List Int) (sl:Sl),
  O (·∈[X0.rb]) w B [bf {X0 with g:=g} s,.g G,.g H,.row bn 1 sl (kd.map ct)] D->gq {X0 with g:=g} E Ms D->fo {X0 with g:=g} l s D->ei E s.g->p0<=s.p->s.p<E.T.length->s.tm<=65536->
  (∀b∈(En.gr g l).fp,b∈(En.gr X0.g l0).fp\/w.heap.size<=b)->i+n=N->kd.length=i->x=(ho tm n s).b (λks s=>.ok {hd with kids:=kd++ks} s)->
  sQ.b5 (ad X0.rb) G o0 o1 o2 o3 o4 o5 o6 o7 o8 H hd.op sl hd.n hd.m hd.u hd.tx hd.st.k hd.st.n hd.st.x (N:Int) (i:Int) B (ea X0 l0 w x (qq w)):=by
 intro n;induction n with
 |zero=>
  intro i g B s l D kd sl C L h A K Q S M hi hk q;refine sQ.dy _ _ _ _ _ _ _ _ _ _ _ _ _ _ _ _ _ _ _ _ _ _ _ _ _ (aV (aP (by omega)) (C.af λw2 e=>?_));have q:x=.ok {hd with kids:=kd} s:=by rw[q];show PR.ok _ _=_;rw[cP]
  refine nh q (⟨⟨{hd with kids:=kd},sl⟩,rfl,rfl,nY (e.get 3),λb P=>?_⟩) (e.get 0) (bc.1 (e.rd _ h.d)) h.x ⟨h.v,h.n⟩ M e.fr;have aa:b∈(En.row bn 1 sl (kd.map ct)).fp:=by
   have:b∈(if kd.map ct=[]then[]else aN sl):=P;split at this
   .cases this
   .exact this
  refine(e.new _ (aB (i:=3) rfl) b aa).resolve_right λae=>?_;exact i5 e.nd (i:=3) (j:=0) rfl rfl (by decide) b aa (by rw[bX.1 ae];simp[En.c,En.ob])
 |succ n ih=>
  intro i g B s l D kd sl C L h A K Q S M hi hk q;refine sQ.dy _ _ _ _ _ _ _ _ _ _ _ _ _ _ _ _ _ _ _ _ _ _ _ _ _ (aT (aM (by omega)) (C.af λw2 e=>?_));have q:x=(tm s).b λk s=>(ho tm n s).b λl s=>.ok {hd with kids:=kd++((k:Int)::l)} s:=by
   rw[q];show PR.b (PR.b (tm s) _) _=_;cases tm s with
   |er y p=>rfl
   |ok k Y=>
    show PR.b (PR.b (ho tm n Y) _) _=PR.b (ho tm n Y) _;cases ho tm n Y<;>rfl
  refine kX (X:={X0 with g:=g}) e 0 rfl h.d (hC {X0 with g:=g} w2 D s l (e.get 0) (cF e (i:=0) rfl rfl) L h A K Q S) (λk W z V v w3 y hv ac P Z=>?_) (λy p w' er f=>fa (q.trans (fe er)) f);obtain⟨I,g2,g3⟩:=hI s k W K Q S h.v A y;have hn:=qz (Z.get 3);subst hv;refine⟨_,rfl,Z.iA 3 rU rfl (λs2 w4 H4=>H4.af λw5 F=>?_) (by omega)⟩;rw[bw _ (by omega)];refine ih (i+1) z w5 W V (D++[.gr z V]) (kd++[(k:Int)]) s2 ?_ (L.sub z λy he=>bz _ he) ac (A.up I.len) (by omega) I.l I.t.2 (λb ab=>(P b ab).elim (M b) .inr) (by omega) (by rw[b',hk];rfl) ?_
  .have F:O (·∈[X0.rb]) w w5 [bf {X0 with g:=z} W,.g G,.g H,.row bn 1 s2 (kd.map ct++[ct (k:Int)])] (D++[.gr z V]):=F;rw[dX];exact F
  .rw [q,eS y];congr 1;funext ks s;rw[hr];rfl
end
def Ji{P:aw}{T kt y:aD}{x:aa}(e:nA P T kt y x){w:J}{h:Nat}{es:Array MapEntry}{clock:Nat}{ms:List (ByteArray×aa)}(B:w.heap[h]? =some (.map es clock))(C:eG es ms)(k:ByteArray):
  (Instr.lookup T (.map (some h)) (.string k) false).run P w=.ok ((kS ms k).getD x) w:=by
 have z:=uN (k:=k) (i:=0) C;have A:(getObj h).run P w=.ok (.map es clock) w:=by simp[getObj,ow,B]
 have d:=Ek (ms:=ms) (k:=k) (i:=0);unfold Instr.lookup Instr.findKey;simp only[Sem.run_bind,run_underlying e.hT,Result.andThen_ok,A,Sem.run_pure,w8 e.hk,run_underlying e.hk,z];cases j:((ms.findIdx? λp=>ao (p.1=k)).bind λq=>(ms[q]?).map λp=>(0+q,p.2))with
 |none=>rw[j]at d;simp[<-d,zP e.hz]
 |some D=>rw[j]at d;simp[<-d]
def int_lt{T:List aR}(H:iy T){s s':aI}{n:Int}(q:s.p<T.length)(h:dm T s=.ok n s'):0<=n/\n<10000000000000:=by obtain⟨t,B,j,k⟩:=cL h;cases k;obtain⟨d,e,y⟩:=oZ j;obtain⟨A,w,x⟩:=H.i t (d▸(pq q).1) e;have:=yL (by decide) x t.text.length;rw[dM (be _)]at this;have z:10^t.text.length<=10^13:=Nat.pow_le_pow_right (by decide) w;omega
def WT:∀d∈fM,d.2.2<=3:=by decide
def WV(w:List UInt8):((lk fM w).getD (0,0)).2<=3:=by
 cases d:lk fM w with
 |none=>exact dc _
 |some v=>exact WT _ (jb d)
section
variable {E:bS} {Ms:List (List UInt8×(Sl×PM))} {tm:aI->PR Nat} {p0:Nat} {X:RC}
def Xv{N:Nat}(hS:k' N)(hN:N+1<=1000000)(hf:∀t∈E.T,t.kind=5->∀ah,g6 t.text=.inr ah->iG N (cu ah.tp))(hC:hE E Ms tm p0)(hI:jt E tm p0){w:J}{D:List En}{s:aI}{l:List Nd}(wd:List UInt8)(j:(bf X s).P w)(hD:gu w X.rb D)(ac:gq X E Ms D)(hG:fo X l s D)(hO:ei E s.g)(h0:p0<=s.p)(L:s.p<E.T.length)(ai:s.tm<=65536):
  aj U CE #[.pointer (some (ad X.rb)),.string (ba wd)] w (ea X l w (jc E.T tm wd s) (qq w)):=by
 have K:=ac.tk;refine sQ.au _ _ w _ ((jf rfl j hD).ay λC w1 H1=>H1.ay λG w2 I=>?_);have I:O (·∈[X.rb]) w w2 [bf X s,.g C,.g G] D:=I;have hw:∀{e:Int} {p:Nat},i7 E.T wd s=.er e p->jc E.T tm wd s=.er e p:=λj=>fe j;have tail:∀{hd:Nx} {ar:Nat} {M:aI} {q:J},i7 E.T wd s=.ok (hd,ar) M->hd.kids=[]->ar<=3->O (·∈[X.rb]) w q [bf X M,.g C,.g G] D->
   sQ.aX (ad X.rb) C 0 ⟨none,0,0⟩ 0 0 0 (bj #[]) 0 0 0 G hd.op ⟨none,0,0⟩ hd.n hd.m hd.u hd.tx hd.st.k hd.st.n hd.st.x (ar:Int) q (ea X l w (jc E.T tm wd s) (qq w)):=λ{hd ar M q} e hk ha h=>by
  have hm:p0<=M.p/\M.p<E.T.length/\M.tm<=65536/\M.g=s.g:=by
   rcases Im K.e L e with m|rfl
   .exact ⟨by have:=m.p;omega,m.l,by rw[m.t];exact ai,m.g⟩
   .exact ⟨h0,L,ai,rfl⟩
  obtain⟨m1,m2,m3,m4⟩:=hm;refine V' (X0:=X) (l0:=l) (hd:=hd) hC hI (N:=ar) (by omega) ar 0 X.g q M l D [] ⟨none,0,0⟩ (h.h' bn 1) ac ⟨hG.d,by rw[m4];exact hG.x,by rw[m4];exact hG.v,by rw[m4];exact hG.n⟩ (by rw[m4];exact hO) m1 m2 m3 (λb j=>.inl j) (by omega) rfl ?_;exact eS e
 have B:i7 E.T wd s=(if wd=[110,117,109]then(dm E.T s).b λu s=>(dm E.T s).b λn s=>.ok (⟨1,[],0,0,u,ba [],a' n⟩,0) s else
  if wd=[122,101,114,111]then(ic E.T s).b λaa s=>.ok (⟨3,[],0,0,0,ba [],aa⟩,0) s else
  if wd=[101,120,116,114,97,99,116]then(dm E.T s).b λn s=>(dm E.T s).b λm s=>.ok (⟨21,[],n,m,0,ba [],bg⟩,1) s else
  if wd=[122,101,120,116]then(dm E.T s).b λn s=>.ok (⟨22,[],n,0,0,ba [],bg⟩,1) s else
  if wd=[115,101,120,116]then(dm E.T s).b λn s=>.ok (⟨23,[],n,0,0,ba [],bg⟩,1) s else
  if wd=[98,121,116,101]then(dm E.T s).b λn s=>.ok (⟨28,[],n,0,0,ba [],bg⟩,1) s else
  if wd=[105,110]then(pa E.T s).b λr s=>.ok (⟨33,[],0,0,0,ba r,bg⟩,1) s else
  .ok (yr ((lk fM wd).getD (0,0)).1,((lk fM wd).getD (0,0)).2) s):=rfl
 have two:∀{F:Int->Int->Nx×Nat},i7 E.T wd s=((dm E.T s).b λu s=>(dm E.T s).b λn s=>.ok (F u n) s)->∀{q:J} {R:Int->Int->J->Prop},O (·∈[X.rb]) w q [bf X s,.g C,.g G] D->
   (∀u n y z,0<=u->u<10000000000000->i7 E.T wd s=.ok (F u n) y->O (·∈[X.rb]) w z [bf X y,.g C,.g G] D->R u n z)->
   lf [C,G] U oX #[.pointer (some (ad X.rb))] (ea X l w (jc E.T tm wd s) (qq w)) q λr z=>∃u,r=ae (.i u)/\loc [C,G] z λw5=>lf [C,G] U oX #[.pointer (some (ad X.rb))] (ea X l w (jc E.T tm wd s) (qq w)) w5 λr w6=>∃n,r=ae (.i n)/\loc [C,G] w6 λY=>R u n Y:=λ{F} H {q R} h hR=>
  ew h 0 rfl (sZ (h.get 0) (cF h (i:=0) rfl rfl) K L) (λu M z Z A=>⟨_,rfl,A.af λw5 H5=>
   ew H5 0 rfl (sZ (H5.get 0) (cF H5 (i:=0) rfl rfl) K (j4 K.e L Z).1.l) (λn y w6 W Q=>⟨_,rfl,Q.af λY S=>
    hR u n y Y (int_lt K.e L Z).1 (int_lt K.e L Z).2 (by rw[H,eS Z,eS W]) S⟩) (λe p V er f=>fa (hw (by rw[H,eS Z];exact fe er)) f)⟩) (λe p V er f=>fa (hw (by rw[H];exact fe er)) f)
 have one:∀{F:Int->Nx×Nat},i7 E.T wd s=((dm E.T s).b λn s=>.ok (F n) s)->∀{q:J} {R:Int->J->Prop},O (·∈[X.rb]) w q [bf X s,.g C,.g G] D->
   (∀n y z,i7 E.T wd s=.ok (F n) y->O (·∈[X.rb]) w z [bf X y,.g C,.g G] D->R n z)->
   lf [C,G] U oX #[.pointer (some (ad X.rb))] (ea X l w (jc E.T tm wd s) (qq w)) q λr z=>∃n,r=ae (.i n)/\loc [C,G] z λw5=>R n w5:=λ{F} H {q R} h hR=>
  ew h 0 rfl (sZ (h.get 0) (cF h (i:=0) rfl rfl) K L) (λn y w6 W Q=>⟨_,rfl,Q.af λY S=>
    hR n y Y (by rw[H,eS W]) S⟩) (λe p V er f=>fa (hw (by rw[H];exact fe er)) f)
 refine dS (b:=[110,117,109]) (λj=>I.af λq h=>two (F:=λu n=>(⟨1,[],0,0,u,ba [],a' n⟩,0)) (B.trans (ag j)) h λu n y z u0 u1 e A=>?_) (λj=>?_)
 .have eu:aG .u64 u=u:=by rw[IntKind.wrap_u64];omega
  rw[eu];exact tail e rfl (by omega) A
 rw[ab j]at B;refine dS (b:=[122,101,114,111]) (λj=>I.af λq h=>?_) (λj=>?_)
 .have H:=B.trans (ag j);exact ew h 0 rfl (DR (h.get 0) (cF h (i:=0) rfl rfl) K L) (λaa y w6 W Q=>⟨_,_,_,rfl,Q.af λY S=>tail (hd:=⟨3,[],0,0,0,ba [],aa⟩) (ar:=0) (by rw[H,eS W]) rfl (by omega) S⟩) (λe p V er f=>fa (hw (by rw[H];exact fe er)) f)
 rw[ab j]at B;refine dS (b:=[101,120,116,114,97,99,116]) (λj=>I.af λq h=>two (F:=λn m=>(⟨21,[],n,m,0,ba [],bg⟩,1)) (B.trans (ag j)) h λu n y z u0 u1 e A=>tail e rfl (by omega) A) (λj=>?_);rw[ab j]at B;refine dS (b:=[122,101,120,116]) (λj=>I.af λq h=>one (F:=λn=>(⟨22,[],n,0,0,ba [],bg⟩,1)) (B.trans (ag j)) h λn y z e A=>tail e rfl (by omega) A) (λj=>?_);rw[ab j]at B;refine dS (b:=[115,101,120,116]) (λj=>I.af λq h=>one (F:=λn=>(⟨23,[],n,0,0,ba [],bg⟩,1)) (B.trans (ag j)) h λn y z e A=>tail e rfl (by omega) A) (λj=>?_);rw[ab j]at B;refine dS (b:=[98,121,116,101]) (λj=>I.af λq h=>one (F:=λn=>(⟨28,[],n,0,0,ba [],bg⟩,1)) (B.trans (ag j)) h λn y z e A=>tail e rfl (by omega) A) (λj=>?_);rw[ab j]at B;refine dS (b:=[105,110]) (λj=>I.af λq h=>?_) (λj=>I.af λq h=>?_)
 .have H:=B.trans (ag j);exact ew h 0 rfl (Xy hS hN hf (h.get 0) (cF h (i:=0) rfl rfl) K L) (λaa y w6 W Q=>⟨_,rfl,Q.af λY S=>tail (hd:=⟨33,[],0,0,0,ba aa,bg⟩) (ar:=1) (by rw[H,eS W]) rfl (by omega) S⟩) (λe p V er f=>fa (hw (by rw[H];exact fe er)) f)
 rw[ab j]at B;obtain⟨es,c,hm,hs⟩:=ac.mo;have lu:∀{V:J},O (·∈[X.rb]) w V [bf X s,.g C,.g G] D->ow U (Instr.lookup EU (.map (some X.mo)) (.string (ba wd)) false) V=.ok (.agg #[.i ((lk fM wd).getD (0,0)).1,.i ((((lk fM wd).getD (0,0)).2:Nat):Int)]) V:=λ{V} al=>by have hl:=Ji Ch (al.rd _ hm) hs (ba wd);rw[qB,mh λak:Int×Nat=>Value.agg #[.i ak.1,.i ((ak.2:Nat):Int)]]at hl;rw[hl];cases lk fM wd<;>rfl
 exact⟨_,h.ld 0 4,_,_,lu h,_,h.ld 0 4,_,_,lu h,h.af λz A=>⟨lu A,A.ld 0 4,tail (hd:=yr ((lk fM wd).getD (0,0)).1) B rfl (WV wd) A⟩⟩
end
abbrev vq(q:List UInt8×aU):List aa:=[.string (ba q.1),.i q.2.k,.i q.2.n,.i q.2.x]
def DB{w:J}{s:Sl}{l:List (List UInt8×aU)}(e:br 4 w s (eM l)){i:Nat}{q:List UInt8×aU}(hi:l[i]? =some q){A:Addr->Prop}(j:∀p,s.a=some p->w.cell? ((p.add (i *4)).add 0)=some (.string (ba q.1))->w.cell? ((p.add (i *4)).add 1)=some (.i q.2.k)->w.cell? ((p.add (i *4)).add 2)=some (.i q.2.n)->w.cell? ((p.add (i *4)).add 3)=some (.i q.2.x)->A p):i<s.n/\dJ s.a A:=by have h:=e.1;unfold eM at h;rw[nJ vq 4 λ_=>rfl]at h;have z:=(cr.1 hi).1;refine⟨by omega,fD.elem (f:=vq) (sz:=4) (λ_=>rfl) (by omega) e.2.2 hi λp y d=>j p y (d 0 _ rfl) (d 1 _ rfl) (d 2 _ rfl) (d 3 _ rfl)⟩
def qC{w:J}{s:Sl}{l:List (List UInt8×aU)}(e:br 4 w s (eM l)):s.n=l.length:=by have d:=e.1;unfold eM at d;rw[nJ vq 4 λ_=>rfl]at d;omega
def FY:∀{ps:List (List UInt8×aU)} {az:List Int} {i:Nat} {q:List UInt8×aU} {a:Int},ps[i]? =some q->az[i]? =some a->(i3 ps az)[i]? =some (q.1,a.toNat)
 |[],_,_,_,_,d,_=>by simp at d
 |_::_,[],_,_,_,_,d=>by simp at d
 |(p,h)::ps,b::az,0,q,a,d,e=>by simp at d e;subst d e;rfl
 |(p,h)::ps,b::az,i+1,q,a,d,e=>by have:=FY (ps:=ps) (az:=az) (i:=i) (by simpa using d) (by simpa using e);simpa[i3]using this
def FZ:∀{ps:List (List UInt8×aU)} {az:List Int},az.length=ps.length->(i3 ps az).map (·.1)=ps.map (·.1)
 |[],[],_=>rfl
 |[],_::_,d=>by simp at d
 |_::_,[],d=>by simp at d
 |(p,e)::ps,b::az,d=>by have:=FZ (ps:=ps) (az:=az) (by simpa using d);show p::(i3 ps az).map (·.1)=_;rw[this];rfl
def Jd{α:Type}:∀{l:List (List UInt8×α)} {t:List UInt8},t∉l.map (·.1)->lk l t=none
 |[],_,_=>rfl
 |(j,v)::l,t,d=>by unfold lk;rw[ab (λe=>d (by simp[e]))];exact Jd λh=>d (cH _ h)
def Ww{α:Type}{l:List α}(e:l.Nodup){i:Nat}{a:α}(hi:l[i]? =some a):a∉l.take i:=λh=>by have d:=e;rw[<-List.take_append_drop i l,List.nodup_append]at d;have:a∈l.drop i:=aB (i:=0) (by rw[List.getElem?_drop];exact hi);exact d.2.2 a h a this rfl
def j'{M:Nat->Prop}{w0 w:J}{L D:List En}(H:O M w0 w L D){o:Obj}{K:J->Prop}(e:∀d,O M w0 d (L++[.ob w.heap.size o]) D->K d):cS w o K:=
 e _ (H.push _ (Fr.alloc _ _ _) (oR w o) (λb h=>by rw[bX.1 (show b∈[w.heap.size]from h)];exact be _))
section
variable {E:bS} {Ms:List (List UInt8×(Sl×PM))} {tm:bS->aI->PR Nat} {X:RC}
abbrev gH(E:bS)(m:PM)(az:List Int):bS:={E with pm:=i3 m.ps az,kn:=m.ix}
def Nr{q:Sl×PM}{t:List UInt8}(hq:lk Ms t=some q){sl:Sl}{az:List Int}(hB:hE (gH E q.2 az) Ms (tm (gH E q.2 az)) 0){w:J}{D:List En}{s:aI}{l:List Nd}(am:(bf X s).P w)(hD:gu w X.rb D)(ac:gq X E Ms D)(V:fo X l s D)(hO:ei E s.g)(aA:s.tm<=65536)(ha:En.rd sl (az.map ct)∈D)(ap:az.length=q.2.ps.length)(ah:∀Y∈az,0<=Y/\Y<(s.g.length:Int)):
  aj U yc #[.pointer (some (ad X.rb)),mW q,sl.v] w (ea X l w (iD tm E q.2 az s) λk v _=>v=.i ((k:Nat):Int)):=by
 have ak:=jb hq;obtain⟨o1,o2,o3,o4⟩:=hO.ms (t,q.2) (by rw[ac.ms];exact cz.2 ⟨_,ak,rfl⟩);have ab:En.a7 4 q.1 (eM q.2.ps)∈D:=ac.pr _ ak;have o4:q.2.ps.length<=100000:=o4;have ae:iD tm E q.2 az s=(tm (gH E q.2 az) {s with p:=q.2.b}).b λn s'=>.ok n {s' with p:=s.p}:=rfl;generalize hx:iD tm E q.2 az s=Y at ae ⊢;have ai:=FZ ap;have loop:∀(y K:Nat) (n i:Nat) (H:J) (es:Array MapEntry) (c:Nat),i+n=q.2.ps.length->eG es (((i3 q.2.ps az).take i).map hS)->O (·∈[X.rb]) w H [bf {X with pm:=some y,kn:=(q.2.ix:Int)} {s with p:=q.2.b},.g K,.ob y (.map es c)] D->
   qE.b5 (ad X.rb) sl (s.p:Int) X.pm X.kn q.1 ((q.2.ps.length:Nat):Int) (i:Int) H (ea X l w Y λk v _=>v=.i ((k:Nat):Int)):=by
  intro y K n;induction n with
  |zero=>
   intro i H es c hi hs I;refine qE.dy _ _ _ _ _ _ _ _ _ _ (aV (aP (by omega)) ?_);have S:=I.freeze 2 (.ob y (.map es c)) rfl (I.get 2) (λb B=>B);have S:O (·∈[X.rb]) w H [bf {X with pm:=some y,kn:=(q.2.ix:Int)} {s with p:=q.2.b},.g K] (D++[.ob y (.map es c)]):=S;have av:(i3 q.2.ps az).take i=i3 q.2.ps az:=dM (by have:=congrArg List.length ai;rw[mb,mb]at this;omega)
   rw[av]at hs;have up:∀z∈D,z∈D++[En.ob y (.map es c)]:=λz he=>bz _ he;have an:gq {X with pm:=some y,kn:=(q.2.ix:Int)} (gH E q.2 az) Ms (D++[.ob y (.map es c)]):=by have:=ac.sub X.g up;exact⟨⟨this.tk.t,this.tk.e⟩,this.mo,this.mv,this.mm,this.ms,this.pr,⟨es,c,b0 _ (bX.2 rfl),hs⟩,rfl,this.dp,this.kc⟩
   have ao:ei (gH E q.2 az) s.g:=⟨hO.T,hO.vs,Ay ah,hO.ms⟩;refine kX (X:={X with pm:=some y,kn:=(q.2.ix:Int)}) (bs:=[]) S 0 rfl (bz _ V.d) (hB _ H _ {s with p:=q.2.b} l (S.get 0) (cF S (i:=0) rfl rfl) an ⟨bz _ V.d,V.x,V.v,V.n⟩ ao (dc _) o2 aA) (λk s' g' l' v L z hv Z aq h=>?_) (λz p w' er f=>fa (ae.trans (fe er)) f);subst hv;refine⟨_,rfl,h.st 0 1 rfl (λM F=>F.st 0 7 rfl (λw5 N=>N.st 0 8 rfl (λw6 G=>?_)))⟩;exact nh (ae.trans (eS z)) rfl (G.get 0) (bc.1 (G.rd _ Z.d)) Z.x ⟨Z.v,Z.n⟩ aq G.fr
  |succ n ih=>
   intro i H es c hi hs I;have W:q.2.ps[i]? =some (q.2.ps[i]'(by omega)):=a5 (by omega);have aa:az[i]? =some (az[i]'(by omega)):=a5 (by omega);generalize q.2.ps[i]'(by omega)=pr at W;generalize az[i]'(by omega)=a at aa;have ar:=FY W aa;have aD:=(ah a (aB aa)).1;have aw:kS (((i3 q.2.ps az).take i).map hS) (ba pr.1)=none:=by
    rw[show((i3 q.2.ps az).take i).map hS=((i3 q.2.ps az).take i).map λq=>(ba q.1,(λn:Nat=>Value.i (n:Int)) q.2)from rfl,mh λn:Nat=>Value.i (n:Int),Jd]
    .rfl
    .rw [List.map_take,ai];exact Ww o3 (by rw[List.getElem?_map,W];rfl)
   have ax:=DB (I.rd _ ab) W (A:=λ_=>True) (λ_ _ _ _ _ _=>trivial);refine qE.dy _ _ _ _ _ _ _ _ _ _ (aT (aM (by omega)) ⟨by omega,by have:i<q.1.n:=ax.1;omega,(DB (I.rd _ ab) W λp hp c0 c1 c2 c3=>⟨ba pr.1,pr.2.k,pr.2.n,pr.2.x,by rw[bZ];exact c0,by rw[bZ];exact c1,by rw[bZ];exact c2,by rw[bZ];exact c3,I.ay λaC w2 C=>C.af λL h=>?_⟩).2⟩);have al:bW L sl az:=h.rd _ ha;have aF:=al.len;refine⟨_,h.ld 0 7,by omega,by omega,al.cell aa (by rw[bZ]) λp' aE hc=>⟨a,hc,?_⟩⟩;obtain⟨M,ag,u1,u2,u3,u4,_⟩:=tD sw (h.ob 2) hs (ba pr.1) (.i a) aw;have F:=h.fC 2 (.ob y (.map ag (c+1))) rfl (u4.mono λY _ z=>by simp[En.ob,z]) u2 (λb B=>.inl B);refine⟨M,u1,?_,?_⟩
   .intro b B;refine u4.ck b ((En.g b).lt L (h.own (.g b) (by simp only[bX]at B;subst B;simp)) b (by simp[En.g])) λz=>?_;simp only[bX]at B;subst B;exact i5 h.nd (i:=3) (j:=2) rfl rfl (by decide) b (by simp[En.g]) (by simp[En.ob,z])
   .rw [bw _ (by omega)];refine ih (i+1) M ag (c+1) (by omega) ?_ (F.take 3);rw[tw ar,dX];have e1:([(pr.1,a.toNat)]:List (List UInt8×Nat)).map hS=[(ba pr.1,.i a)]:=by show[(ba pr.1,Value.i ((a.toNat:Nat):Int))]=_;rw[show((a.toNat:Nat):Int)=a by omega]
    rw[e1];exact u3
 refine qE.au _ _ _ _ _ w _ ((jf rfl am hD).ay λK H H1=>H1.af λw2 C=>⟨_,C.ld 0 1,_,C.ld 0 7,_,C.ld 0 8,C.af λL h=>?_,C.af λL h=>?_⟩)
 .refine j' h λM F=>F.gT 0 1 rfl (λw5 N=>N.gT 0 7 rfl (λw6 G=>G.gT 0 8 rfl (λw7 Q=>?_)));show qE.b5 _ _ _ _ _ _ ((q.1.n:Nat):Int) _ _ _;rw[qC (Q.rd _ ab)];exact loop L.heap.size K q.2.ps.length 0 w7 #[] 0 (by omega) rfl Q
 .refine h.gT 0 1 rfl (λM F=>j' F λw5 N=>N.gT 0 7 rfl (λw6 G=>G.gT 0 8 rfl (λw7 Q=>?_)));show qE.b5 _ _ _ _ _ _ ((q.1.n:Nat):Int) _ _ _;rw[qC (Q.rd _ ab)];exact loop M.heap.size K q.2.ps.length 0 w7 #[] 0 (by omega) rfl Q
end
def xQ{α β:Type}(f:α->β):∀(l:List (List UInt8×α)) (t:List UInt8),lk (l.map λd=>(d.1,f d.2)) t=(lk l t).map f
 |[],_=>rfl
 |(e,v)::l,t=>by
  show(if e=t then some (f v)else lk (l.map λd=>(d.1,f d.2)) t)=(if e=t then some v else lk l t).map f;split
  .rfl
  .exact xQ f l t
def VJ{P:aw}{T kt h:aD}{e:aa}(d:nA P T kt h e)(k:ByteArray)(w:J):
  (Instr.lookup T (.map none) (.string k) true).run P w=.ok (.tuple #[e,.bool false]) w:=by have j:=uN (k:=k) (es:=[]) (ms:=[]) (i:=0) rfl;unfold Instr.lookup Instr.findKey;simp[j,Sem.run_bind,run_underlying d.hT,w8 d.hk,run_underlying d.hk,zP d.hz]
section
variable {E:bS} {Ms:List (List UInt8×(Sl×PM))} {tm:bS->aI->PR Nat} {X:RC}
def Jr(h:E.ms=Ms.map λd=>(d.1,d.2.2))(t:List UInt8):(u7 Ms E.kn t=false->mV E t=none)/\(u7 Ms E.kn t=true->∃d,lk Ms t=some d/\lD Ms t=d/\mV E t=some d.2/\d.2.ix<E.kn):=by
 unfold u7 mV lD;rw[h,xQ (λd:Sl×PM=>d.2)];cases e:lk Ms t with
 |none=>exact⟨λ_=>rfl,λe=>by cases e⟩
 |some d=>
  show(ao (d.2.ix<E.kn)=false->(if d.2.ix<E.kn then some d.2 else none)=none)/\(ao (d.2.ix<E.kn)=true->_);refine⟨λe=>ab (kq e),λe=>⟨d,rfl,rfl,ag (eZ e),eZ e⟩⟩
abbrev kV(k:Nat)(v:aa)(_:J):Prop:=v=.i ((k:Nat):Int)
def Xu{t:aR}(al:∀t h,lk Ms t=some h->h.2.ix<E.kn->∀aa,hE (gH E h.2 aa) Ms (tm (gH E h.2 aa)) 0){w:J}{D:List En}{s:aI}{l:List Nd}(T:(bf X s).P w)(hD:gu w X.rb D)(q:gq X E Ms D)(y:fo X l s D)(hO:ei E s.g)(ap:s.tm<=65536):
  aj U CD #[.pointer (some (ad X.rb)),kY t] w (ea X l w (mY tm E t s) kV):=by
 have look:∀{V:J} {L:List En} {ms:List (List UInt8×Nat)} {b:Nat} {es:Array MapEntry} {c:Nat},O (·∈[X.rb]) w V L D->En.ob b (.map es c)∈D->eG es (ms.map hS)->ow U (Instr.lookup ET (.map (some b)) (.string (ba t.text)) true) V=.ok (.tuple #[.i (((lk ms t.text).getD 0:Nat):Int),.bool (lk ms t.text).isSome]) V:=λ{V L ms b es c} z B C=>by have hl:=u4 sw (z.rd _ B) C (ba t.text);rw[show ms.map hS=ms.map λh=>(ba h.1,(λn:Nat=>Value.i (n:Int)) h.2)from rfl,mh λn:Nat=>Value.i (n:Int)]at hl;rw[hl];cases lk ms t.text<;>rfl
 have done:∀{n:Nat} {V:J} {L:List En},mY tm E t s=.ok n s->O (·∈[X.rb]) w V (bf X s::L) D->ea X l w (mY tm E t s) kV (ae (.i (n:Int))) V:=λ{n V L} j z=>
  nh j rfl (z.get 0) (bc.1 (z.rd _ y.d)) y.x ⟨y.v,y.n⟩ (λb T=>.inl T) z.fr
 refine MV.au _ _ _ _ w _ ((jf rfl T hD).ay λb3 w1 H1=>H1.af λw2 F=>⟨X.pm,F.ld 0 7,(((lk E.pm t.text).getD 0:Nat):Int),(lk E.pm t.text).isSome,?_,?_⟩)
 .have M:=q.pm;cases K:X.pm with
  |none=>
   rw[K]at M;rw[show E.pm=[]from M];exact VJ sw _ _
  |some b=>
   rw[K]at M;obtain⟨es,c,B,C⟩:=M;exact look F B C
 have e:mY tm E t s=match lk E.pm t.text with
  |some n=>.ok n s
  |none=>match lk E.vs t.text with
   |some n=>.ok n s
   |none=>match mV E t.text with
    |some m=>if m.ps=[]then iD tm E m [] s else .er 6 t.a3
    |none=>.er 6 t.a3:=rfl
 cases ah:lk E.pm t.text with
 |some n=>
  rw[ah]at e;exact aT rfl (done e F)
 |none=>
  rw[ah]at e;obtain⟨es,c,B,C⟩:=q.mv;refine aV rfl (F.af λw3 k=>⟨some X.mv,k.ld 0 5,_,_,look k B C,?_⟩);cases ak:lk E.vs t.text with
  |some n=>
   rw[ak]at e;exact aT rfl (done e k)
  |none=>
   rw[ak]at e;have ac:=Jr q.ms t.text;refine aV rfl (k.av (Nt (k.get 0) (cF k (i:=0) rfl rfl) q t.text) ?_);rintro _ w4 rfl H4;refine⟨_,_,_,_,rfl,H4.ay λb9 w5 G=>ey (λY=>?_) (λY=>?_)⟩
   .have e:=e.trans (by rw[ac.1 Y]);exact G.af λN A=>fI A (iR _ 6 t N) λV f=>fa e f
   .obtain ⟨h,Z,q2,q3,q4⟩:=ac.2 Y;rw[q3]at e;rw[q2];have ao:En.a7 4 h.1 (eM h.2.ps)∈D:=q.pr _ (jb Z);have ai:h.1.n=h.2.ps.length:=qC (G.rd _ ao);refine aS (λaq=>?_) (λhz=>?_)
    .have an:h.2.ps≠[]:=λj=>by rw[j]at ai;simp at ai;omega
     exact G.af λN A=>fI A (iR _ 6 t N) λV f=>fa (e.trans (ab an)) f
    .have I:h.2.ps=[]:=o6 (by omega);refine G.af λN A=>?_;have Q:=A.ek (.rd ⟨none,0,0⟩ (([]:List Int).map ct)) (Fr.refl _ _) (Rd.nil _) (λb W=>by cases W);have up:∀j∈D,j∈D++[En.rd ⟨none,0,0⟩ (([]:List Int).map ct)]:=λj I=>bz _ I;have e:=e.trans (ag I);have am:gq X E Ms (D++[En.rd ⟨none,0,0⟩ (([]:List Int).map ct)]):=q.sub X.g up;have hc:=Nr (X:=X) (tm:=tm) (az:=[]) Z (al _ h Z q4 []) (Q.get 0) (cF Q (i:=0) rfl rfl) am (y.sub up) hO ap (b0 _ (bX.2 rfl)) (by rw[I];rfl) (λax K=>by cases K);generalize ar:iD tm E h.2 [] s=xx at hc e;refine kX (X:=X) (x:=xx) Q 0 rfl (up _ y.d) hc (λaw s' g' l' v w8 j hv H W S=>?_) (λj p V er f=>fa (e.trans er) f);subst hv;exact⟨_,rfl,nh (e.trans j) rfl (S.get 0) (bc.1 (S.rd _ H.d)) H.x ⟨H.v,H.n⟩ W S.fr⟩
end
section
variable {E:bS} {Ms:List (List UInt8×(Sl×PM))} {tm:bS->aI->PR Nat} {X:RC} {p0:Nat}
def UR{t:aR}{q:Sl×PM}{tx:List UInt8}(T:lk Ms tx=some q){sl:Sl}{zs:List Int}(hB:hE (gH E q.2 zs) Ms (tm (gH E q.2 zs)) 0){l0:List Nd}{w:J}{x:PR Nat}{H I:Nat}{g:Sl}{s:aI}{l:List Nd}{D:List En}(L:gq {X with g:=g} E Ms D)(B:fo {X with g:=g} l s D)(hO:ei E s.g)(al:s.tm<=65536)(N:∀b∈(En.gr g l).fp,b∈(En.gr X.g l0).fp\/w.heap.size<=b)(hz:zs.length=q.2.ps.length)(ha:∀a∈zs,0<=a/\a<(s.g.length:Int)):∀(n i:Nat) (A:J),i+n=q.2.ps.length->
  O (·∈[X.rb]) w A [bf {X with g:=g} s,.g H,.g I,.row bn 1 sl (zs.map ct)] D->(x=if pe s.g (q.2.ps.drop i) (zs.drop i)then iD tm E q.2 zs s else .er 9 t.a3)->
  n4.ku (ad X.rb) H t.kind (ba t.text) t.a3 I q.1 ((q.2.b:Nat):Int) ((q.2.ix:Nat):Int) sl q.1 ((q.1.n:Nat):Int) (i:Int) A (ea X l0 w x kV):=by
 have S:En.a7 4 q.1 (eM q.2.ps)∈D:=L.pr _ (jb T);obtain⟨_,_,_,o4⟩:=hO.ms (tx,q.2) (by rw[L.ms];exact cz.2 ⟨_,jb T,rfl⟩);have o4:q.2.ps.length<=100000:=o4;intro n;induction n with
 |zero=>
  intro i A hi h e;have aj:q.1.n=q.2.ps.length:=qC (h.rd _ S);refine n4.oB _ _ _ _ _ _ _ _ _ _ _ _ _ _ _ (aV (aP (by omega)) ?_);have e:x=iD tm E q.2 zs s:=by rw[e,de (show q.2.ps.length<=i by omega)];exact ag rfl
  have j:=h.freeze 3 (.rd sl (zs.map ct)) rfl (nY (h.get 3)) (λb N=>by
   have:b∈(if zs.map ct=[]then[]else aN sl):=N;split at this
   .cases this
   .exact this)
  have j:O (·∈[X.rb]) w A [bf {X with g:=g} s,.g H,.g I] (D++[.rd sl (zs.map ct)]):=j;have V:∀z∈D,z∈D++[En.rd sl (zs.map ct)]:=λz P=>bz _ P;have F:=Nr (X:={X with g:=g}) (tm:=tm) (az:=zs) T hB (j.get 0) (cF j (i:=0) rfl rfl) (L.sub g V) (B.sub V) hO al (b0 _ (bX.2 rfl)) hz ha;generalize ar:iD tm E q.2 zs s=xx at F e;refine kX (X:={X with g:=g}) (x:=xx) j 0 rfl (V _ B.d) F (λau s' g' l' v w8 z hv C ah G=>?_) (λz p w' er f=>fa (e.trans er) f);subst hv;exact⟨_,rfl,nh (e.trans z) rfl (G.get 0) (bc.1 (G.rd _ C.d)) C.x ⟨C.v,C.n⟩ (λb K=>(ah b K).elim (N b) .inr) G.fr⟩
 |succ n ih=>
  intro i A hi h e;have aj:q.1.n=q.2.ps.length:=qC (h.rd _ S);have ae:q.2.ps[i]? =some (q.2.ps[i]'(by omega)):=a5 (by omega);have M:zs[i]? =some (zs[i]'(by omega)):=a5 (by omega);have Y:q.2.ps.drop i=(q.2.ps[i]'(by omega))::q.2.ps.drop (i+1):=dk (by omega);have Z:zs.drop i=(zs[i]'(by omega))::zs.drop (i+1):=dk (by omega);generalize q.2.ps[i]'(by omega)=pr at ae Y;generalize zs[i]'(by omega)=a at M Z;obtain⟨a0,a1⟩:=ha a (aB M);have aa:=B.x;have an:l.length=s.g.length:=by rw[<-aa];simp[xs]
  have Q:l[a.toNat]? =some (l[a.toNat]'(by omega)):=a5 (by omega);generalize l[a.toNat]'(by omega)=nd at Q;have ak:s.g[a.toNat]? =some nd.x:=by rw[<-aa];exact ou Q
  rw[Y,Z]at e;have e:x=if(ao ((s.g[a.toNat]?).map (·.st)=some pr.2)&&pe s.g (q.2.ps.drop (i+1)) (zs.drop (i+1)))=true then iD tm E q.2 zs s else .er 9 t.a3:=e;rw[ak]at e;refine n4.oB _ _ _ _ _ _ _ _ _ _ _ _ _ _ _ (aT (aM (by omega)) ⟨by omega,by omega,(DB (h.rd _ S) ae λp hp c0 c1 c2 c3=>⟨ba pr.1,pr.2.k,pr.2.n,pr.2.x,by rw[bZ];exact c0,by rw[bZ];exact c1,by rw[bZ];exact c2,by rw[bZ];exact c3,h.ay λam w2 j=>j.af λW y=>?_⟩).2⟩);have ac:bW W sl zs:=nY (y.get 3);have aq:=ac.len;refine⟨g,by rw[add_add];exact y.ld 0 2,by omega,by omega,ac.cell M (by rw[bZ]) λp' ap F=>⟨a,F,?_⟩⟩;refine e4 (bc.1 (y.rd _ B.d)) (X:=a) (i:=a.toNat) (by omega) Q (λp hp c=>⟨nd.x.st.k,nd.x.st.n,nd.x.st.x,c.s0,c.s1,c.s2,?_⟩);refine vP (λai=>fI y (iR _ 9 t W) λw' f=>fa (e.trans (ab (by simp;intro K;exact absurd K ai))) f) (λP=>?_);show n4.ku _ _ _ _ _ _ _ _ _ _ _ _ (aG .i64 ((i:Int)+1)) _ _;rw[bw _ (by omega)];exact ih (i+1) W (by omega) (y.take 4) (by rw[e];simp[P])
def Zq{α:Type}{l:List α}{i:Nat}(d:i<l.length)(a:α):(l.set i a).take (i+1)=l.take i++[a]:=by rw[tw (c:=a) (by rw[hv d]),List.take_set_of_le (be i)]
def UQ(hC:hE E Ms (tm E) p0)(hI:jt E (tm E) p0){t:aR}{q:Sl×PM}{tx:List UInt8}(q1:lk Ms tx=some q)(hB:∀W,hE (gH E q.2 W) Ms (tm (gH E q.2 W)) 0){sl:Sl}{l0:List Nd}{w:J}{x:PR Nat}{Y Z:Nat}(hN:q.2.ps.length<=100000):∀(n i:Nat) (g:Sl) (G:J) (s:aI) (l:List Nd) (D:List En) (zs:List Int),i+n=q.2.ps.length->zs.length=q.2.ps.length->
  O (·∈[X.rb]) w G [bf {X with g:=g} s,.g Y,.g Z,.row bn 1 sl (zs.map ct)] D->gq {X with g:=g} E Ms D->fo {X with g:=g} l s D->ei E s.g->p0<=s.p->s.p<E.T.length->s.tm<=65536->(∀b∈(En.gr g l).fp,b∈(En.gr X.g l0).fp\/w.heap.size<=b)->(∀a∈zs.take i,0<=a/\a<(s.g.length:Int))->
  (x=(ho (tm E) n s).b λA s=>(bM E.T 1 s).b λ_ s=>if pe s.g q.2.ps (zs.take i++A)then iD tm E q.2 (zs.take i++A) s else .er 9 t.a3)->
  n4.b5 (ad X.rb) Y t.kind (ba t.text) t.a3 Z q.1 ((q.2.b:Nat):Int) ((q.2.ix:Nat):Int) sl ((q.2.ps.length:Nat):Int) (i:Int) G (ea X l0 w x kV):=by
 intro n;induction n with
 |zero=>
  intro i g G s l D zs hi P y C j z M F K N I h;have ht:zs.take i=zs:=dM (by omega);rw[ht]at I;have h:x=(bM E.T 1 s).b λ_ s=>if pe s.g q.2.ps zs then iD tm E q.2 zs s else .er 9 t.a3:=by rw[h,ht];show(bM E.T 1 s).b _=_;rw[cP]
  refine n4.dy _ _ _ _ _ _ _ _ _ _ _ _ _ _ (aV (aP (by omega)) (ew (X:={X with g:=g}) y 0 rfl (hO (y.get 0) (cF y (i:=0) rfl rfl) C.tk F) (λc Q w2 e H2=>⟨_,_,_,rfl,?_⟩) (λe p w' er f=>fa (h.trans (fe er)) f)));have m:=dW z.T F (by decide) e;exact UR q1 (hB zs) C ⟨j.d,by rw[m.g];exact j.x,by rw[m.g];exact j.v,by rw[m.g];exact j.n⟩ (by rw[m.g];exact z) (by rw[m.t];exact K) N P (by rw[m.g];exact I) q.2.ps.length 0 w2 (by omega) H2 (h.trans (eS e))
 |succ n ih=>
  intro i g G s l D zs hi P y C j z M F K N I h;have h:x=(tm E s).b λk s=>(ho (tm E) n s).b λA s=>(bM E.T 1 s).b λ_ s=>if pe s.g q.2.ps (zs.take i++((k:Int)::A))then iD tm E q.2 (zs.take i++((k:Int)::A)) s else .er 9 t.a3:=by
   rw[h];show PR.b (PR.b (tm E s) _) _=_;cases tm E s with
   |er e p=>rfl
   |ok k S=>
    show PR.b (PR.b (ho (tm E) n S) _) _=PR.b (ho (tm E) n S) _;cases ho (tm E) n S<;>rfl
  refine n4.dy _ _ _ _ _ _ _ _ _ _ _ _ _ _ (aT (aM (by omega)) (kX (X:={X with g:=g}) y 0 rfl j.d (hC {X with g:=g} G D s l (y.get 0) (cF y (i:=0) rfl rfl) C j z M F K) (λk Q L l' v w3 e hv ac af V=>?_) (λe p w' er f=>fa (h.trans (fe er)) f)));obtain⟨H,g2,g3⟩:=hI s k Q M F K j.v z e;subst hv;have aa:bW w3 sl zs:=nY (V.get 3);have ai:=aa.len;have ah:zs[i]? =some (zs[i]'(by omega)):=a5 (by omega);refine⟨_,rfl,by omega,by omega,aa.cell ah rfl λp' ag hc=>?_⟩;rw[bZ,Nat.mul_one];refine V.qS 3 i rfl ag (by rw[mb];omega) (λw4 H4=>?_);rw[bw _ (by omega)];have ab:=Zq (l:=zs) (i:=i) (by omega) (k:Int);refine ih (i+1) L w4 Q l' (D++[.gr L l']) (zs.set i (k:Int)) (by omega) (by rw[List.length_set];exact P) ?_ (C.sub L λe he=>bz _ he) ac (z.up H.len) (by omega) H.l H.t.2 (λb B=>(af b B).elim (N b) .inr) ?_ ?_
  .rw [List.map_set];exact H4
  .rw [ab];intro a ae;have:=H.len;rcases aL.1 ae with B|B
   .have:=I a B;omega
   .rw [bX.1 B];omega
  .rw [h,eS e,ab];congr 1;funext A s;rw[hr];rfl
end
section
variable {E:bS} {Ms:List (List UInt8×(Sl×PM))} {tm:bS->aI->PR Nat} {X:RC} {p0:Nat}
def Xo(hC:hE E Ms (tm E) p0)(hI:jt E (tm E) p0){t wd:aR}(aa:∀t d,lk Ms t=some d->d.2.ix<E.kn->∀k,hE (gH E d.2 k) Ms (tm (gH E d.2 k)) 0){w:J}{D:List En}{s:aI}{l:List Nd}(I:(bf X s).P w)(hD:gu w X.rb D)(x:gq X E Ms D)(hG:fo X l s D)(Q:ei E s.g)(h0:p0<=s.p)(hp:s.p<E.T.length)(ae:s.tm<=65536):
  aj U Cw #[.pointer (some (ad X.rb)),kY t,kY wd] w (ea X l w (rH tm E t wd s) kV):=by
 have y:rH tm E t wd s=match mV E wd.text with
  |none=>.er 6 wd.a3
  |some m=>(ho (tm E) m.ps.length s).b λk s=>(bM E.T 1 s).b λ_ s=>if pe s.g m.ps k then iD tm E m k s else .er 9 t.a3:=rfl
 have S:=Jr x.ms wd.text;refine n4.au _ _ _ _ _ _ _ w _ ((jf rfl I hD).ay λB w1 Y=>Y.ay λq w2 H=>H.av (Nt (H.get 0) (cF H (i:=0) rfl rfl) x wd.text) ?_);rintro _ w3 rfl Z;refine⟨_,_,_,_,rfl,Z.ay λC w4 M=>ey (λK=>?_) (λK=>?_)⟩
 .have y:=y.trans (by rw[S.1 K]);exact M.af λe j=>fI j (iR _ 6 wd e) λw' f=>fa y f
 .obtain ⟨d,F,q2,q3,q4⟩:=S.2 K;rw[q3]at y;rw[q2];have ac:En.a7 4 d.1 (eM d.2.ps)∈D:=x.pr _ (jb F);obtain⟨_,_,_,L⟩:=Q.ms (wd.text,d.2) (by rw[x.ms];exact cz.2 ⟨_,jb F,rfl⟩);have L:d.2.ps.length<=100000:=L;refine M.af λe j=>?_;have ab:d.1.n=d.2.ps.length:=qC (j.rd _ ac);have z:=j.freeze 2 (.g q) rfl (j.get 2) (λb h=>h);have z:O (·∈[X.rb]) w e [bf X s,.g B,.g C] (D++[.g q]):=z;have W:∀N∈D,N∈D++[En.g q]:=λN he=>bz _ he;obtain⟨G,r1,r2,V⟩:=Js rU e d.2.ps.length (by omega);have A:=z.Nb V r2 (by intro b h;simp[aN]at h;omega);rw[VS (.int .i64 0) d.2.ps.length rfl]at A;have kp:kept [B,C] e G:=λb h=>by
   have hg:En.g b∈[bf X s,En.g B,En.g C]:=by simp only[aE,aZ,a2]at h ⊢;rcases h with rfl|rfl<;>simp
   exact V.ck b ((En.g b).lt e (z.own _ hg) b (by simp[En.g])) id
  refine⟨⟨some (ad e.heap.size),d.2.ps.length,d.2.ps.length⟩,G,by rw[ab];exact r1,kp,?_⟩;have A:O (·∈[X.rb]) w G [bf X s,.g B,.g C,.row bn 1 ⟨some (ad e.heap.size),d.2.ps.length,d.2.ps.length⟩ ((List.replicate d.2.ps.length (0:Int)).map ct)] (D++[.g q]):=by rw[List.map_replicate];exact A
  exact UQ hC hI F (aa _ d F q4) L d.2.ps.length 0 X.g G s l (D++[.g q]) (List.replicate d.2.ps.length 0) (by omega) (by rw[List.length_replicate]) A (x.sub X.g W) (hG.sub W) Q h0 hp ae (λb I=>.inl I) (λa ha=>by cases ha) y
end
def QW{M:Nat->Prop}{w0 w V:J}{L D:List En}(H:O M w0 w L D)(i:Nat){e k:En}(z:List En)(hi:L[i]? =some e)(f:Fr (·∈e.fp) w V)(G:k.P V)(C:k.fp=e.fp)(hd:∀y∈z,y.P V/\∀b∈y.fp,w.heap.size<=b\/∃g∈D,b∈g.fp):O M w0 V (L.set i k) (D++z):=by
 have h:=H.fC i k hi f G (λb I=>.inl (C▸I));refine⟨h.fr,h.own,λg d=>?_,h.new,h.nd,λg d b B q x j=>?_⟩
 .rcases aL.1 d with d|d
  .exact h.rd g d
  .exact (hd g d).1
 .rcases aL.1 d with d|d
  .exact h.dj g d b B q x j
  .rcases (hd g d).2 b B with A|⟨E,K,A⟩
   .have:b<w.heap.size:=by
     rcases List.mem_or_eq_of_mem_set x with F|rfl
     .exact q.lt w (H.own q F) b j
     .rw [C]at j;exact e.lt w (H.own e (aB hi)) b j
    omega
   .exact h.dj E K b A q x j
section
variable {E:bS} {Ms:List (List UInt8×(Sl×PM))} {tm:bS->aI->PR Nat} {X:RC} {p0:Nat}
def Wd{M:Nat->Prop}{w0 w:J}{L D:List En}{bs:List Nat}{l:List Nd}(H:O M w0 w L D)(i:Nat){s:aI}{x:PR Nx}{P:aw}{f:bU}{args:Array aa}{R K:aC}(hi:L[i]? =some (bf X s))(N:En.gr X.g l∈D)(E:aj P f args w (ea X l w x (qq w)))(S:∀y h k (d:Nd) j,x=.ok d.x y->fo {X with g:=h} k y (D++[.gr h k,cg d])->(∀b∈(En.gr h k).fp,b∈(En.gr X.g l).fp\/w0.heap.size<=b)->O M w0 j (L.set i (bf {X with g:=h} y)) (D++[.gr h k,cg d])->K (ae d.v) j)(I:∀q p j,x=.er q p->Fr M w0 j->R (.panicked (hl q p)) j)(C:∀b∈bs,En.g b∈L.eraseIdx i:=by simp):lf bs P f args R w K:=by
 refine E.mono λr j e=>?_;unfold ea at e;split at e
 .rename_i a y;obtain⟨v,rfl,⟨d,rfl,rfl,G,F⟩,h,k,T,Q,V,B,z,f⟩:=e;refine .inr ⟨⟨_,rfl⟩,B2 H hi f C,S y h k d j rfl ⟨b0 _ (by simp),V,B.1,B.2⟩ (λb e=>(z b e).imp id λe=>bp H.fr.size e) (QW H i [.gr h k,cg d] hi f T rfl λq A=>?_)⟩;simp only[aE,aZ,a2]at A;rcases A with rfl|rfl
  .exact ⟨bc.2 Q,λb e=>(z b e).elim (λe=>.inr ⟨_,N,e⟩) .inl⟩
  .exact ⟨G,λb e=>.inl (F b e)⟩
 .rename_i q p;obtain⟨rfl,f⟩:=e;exact .inl ⟨_,rfl,I q p j rfl (BE H hi f)⟩
abbrev fV(E:bS):bS:={E with dp:=E.dp+1}
def Xq{N:Nat}(hS:k' N)(hN:N+1<=1000000)(hf:∀t∈E.T,t.kind=5->∀ak,g6 t.text=.inr ak->iG N (cu ak.tp))(aq:∀I s n s',jc E.T (tm (fV E)) I s=.ok n s'->jW n)(hC:hE (fV E) Ms (tm (fV E)) p0)(hI:jt (fV E) (tm (fV E)) p0)(ao:∀t W,lk Ms t=some W->W.2.ix<E.kn->∀az,hE (gH (fV E) W.2 az) Ms (tm (gH (fV E) W.2 az)) 0){t:aR}{w:J}{D:List En}{s:aI}{l:List Nd}(ac:(bf X s).P w)(hD:gu w X.rb D)(j:gq X E Ms D)(M:fo X l s D)(F:ei E s.g)(h0:p0<=s.p)(hp:s.p<E.T.length)(aw:s.tm<=65536):
  aj U Cz #[.pointer (some (ad X.rb)),kY t] w (ea X l w (mH tm E t s) kV):=by
 have h:mH tm E t s=if 64<=E.dp then .er 4 t.a3 else
  (bM E.T 2 s).b λw s=>if l7 w.text then(jc E.T (tm (fV E)) w.text s).b λn s=>(bM E.T 1 s).b λ_ s=>eR s n t
   else rH tm (fV E) t w s:=rfl
 have aA:=j.dp;refine DF.au _ _ _ _ w _ ((jf rfl ac hD).ay λb3 w1 K=>⟨_,K.ld 0 9,aS (λan=>fI K (iR _ 4 t w1) λV f=>fa (h.trans (ag (by omega))) f) (λan=>⟨_,K.ld 0 9,K.gT 0 9 rfl (λw2 z=>?_)⟩)⟩);rw[ab (by omega)]at h;rw[bw _ (by omega)]at z;have z:O (·∈[X.rb]) w w2 [bf {X with dp:=X.dp+1} s,.g b3] D:=z;have G:gq {X with dp:=X.dp+1} (fV E) Ms D:=⟨⟨j.tk.t,j.tk.e⟩,j.mo,j.mv,j.mm,j.ms,j.pr,j.pm,j.kn,by show X.dp+1=E.dp+1;omega,j.kc⟩;have ap:ei (fV E) s.g:=⟨F.T,F.vs,F.pm,F.ms⟩;have fin:∀{k:Nat} {s':aI} {L:Sl} {l':List Nd} {D':List En} {L':List En} {V:J},mH tm E t s=.ok k s'->O (·∈[X.rb]) w V (bf {X with dp:=X.dp+1,g:=L} s'::L') D'->fo {X with g:=L} l' s' D'->(∀b∈(En.gr L l').fp,b∈(En.gr X.g l).fp\/w.heap.size<=b)->
   DF.bb (ad X.rb) (k:Int) V (ea X l w (mH tm E t s) kV):=λ{k s' L l' D' L' V} q ai Q hb=>by
  have e9:aG .i64 (((X.dp+1:Nat):Int) - 1)=(X.dp:Int):=by rw[bm _ (by omega)];omega
  refine⟨((X.dp+1:Nat):Int),ai.ld 0 9,ai.st 0 9 (v:=.i (aG .i64 (((X.dp+1:Nat):Int) - 1))) rfl λw3 A=>?_⟩;rw[e9]at A;exact nh q rfl (A.get 0) (bc.1 (A.rd _ Q.d)) Q.x ⟨Q.v,Q.n⟩ hb A.fr
 refine ew (X:={X with dp:=X.dp+1}) z 0 rfl (hO (z.get 0) (cF z (i:=0) rfl rfl) G.tk hp) (λI Y w3 e1 A=>⟨_,_,_,rfl,A.ay λb6 w4 H4=>H4.af λw5 H5=>?_⟩) (λq p V er f=>fa (h.trans (fe er)) f);have m:=dW F.T hp (by decide) e1;have h:=h.trans (eS e1);have H:fo {X with dp:=X.dp+1} l Y D:=⟨M.d,by rw[m.g];exact M.x,by rw[m.g];exact M.v,by rw[m.g];exact M.n⟩;have ae:ei (fV E) Y.g:=by rw[m.g];exact ap
 have p1:p0<=Y.p:=by have:=m.p;omega
 have t1:Y.tm<=65536:=by rw[m.t];exact aw
 refine H5.av (Ns (H5.get 0) (cF H5 (i:=0) rfl rfl) G I.text) ?_;rintro _ w6 rfl B;refine⟨_,rfl,bh (λho=>?_) (λho=>?_)⟩
 .have h:=h.trans (ag ho);refine Wd (X:={X with dp:=X.dp+1}) B 0 rfl H.d (Xv (E:=fV E) hS hN hf hC hI I.text (B.get 0) (cF B (i:=0) rfl rfl) G H ae p1 m.l t1) (λs2 C l2 al w7 e2 S ar H7=>⟨_,_,_,_,_,_,_,_,_,rfl,H7.ay λb7 w8 H8=>H8.af λw9 H9=>?_⟩) (λq p V er f=>fa (h.trans (fe er)) f);have h:=h.trans (eS e2);have g1:=Me hI p1 m.l t1 H.v ae e2;have up:∀q∈D,q∈D++[En.gr C l2,cg al]:=λq he=>bz _ he;refine ew (X:={X with dp:=X.dp+1,g:=C}) H9 0 rfl (hO (H9.get 0) (cF H9 (i:=0) rfl rfl) (G.sub C up).tk g1.l) (λc s3 aB e3 Z=>⟨_,_,_,rfl,?_⟩) (λq p V er f=>fa (h.trans (fe er)) f);have m3:=dW F.T g1.l (by decide) e3;have h:=h.trans (eS e3);have am:fo {X with dp:=X.dp+1,g:=C} l2 s3 (D++[.gr C l2,cg al]):=⟨S.d,by rw[m3.g];exact S.x,by rw[m3.g];exact S.v,by rw[m3.g];exact S.n⟩;refine kX (X:={X with dp:=X.dp+1,g:=C}) Z 0 rfl am.d (yO (t:=t) (Z.get 0) (cF Z (i:=0) rfl rfl) am (up _ j.kc) (b0 _ (by simp)) (aq _ _ _ _ e2)) (λk s4 g4 l4 v ax e4 hv y ah aa=>?_) (λq p V er f=>fa (h.trans er) f);subst hv;exact⟨_,rfl,fin (h.trans e4) aa ⟨y.d,y.x,y.v,y.n⟩ (λb ac=>(ah b ac).elim (ar b) .inr)⟩
 .have h:=h.trans (ab (by rw[ho];simp));refine kX (X:={X with dp:=X.dp+1}) B 0 rfl H.d (Xo (E:=fV E) (t:=t) (wd:=I) hC hI ao (B.get 0) (cF B (i:=0) rfl rfl) G H ae p1 m.l t1) (λk s4 g4 l4 v ax e4 hv y ah aa=>?_) (λq p V er f=>fa (h.trans er) f);subst hv;exact⟨_,rfl,fin (h.trans e4) aa ⟨y.d,y.x,y.v,y.n⟩ ah⟩
end
section
variable {E:bS} {Ms:List (List UInt8×(Sl×PM))} {tm:bS->aI->PR Nat} {X:RC}
def XB{N:Nat}(hS:k' N)(hN:N+1<=1000000)(hf:∀t∈E.T,t.kind=5->∀ai,g6 t.text=.inr ai->iG N (cu ai.tp))(ar:∀wd s n s',jc E.T (tm (fV E)) wd s=.ok n s'->jW n){w:J}{D:List En}{s:aI}{l:List Nd}(hC:hE (fV E) Ms (tm (fV E)) (s.p+1))(hI:jt (fV E) (tm (fV E)) (s.p+1))(ap:∀t A,lk Ms t=some A->A.2.ix<E.kn->∀K,hE (gH E A.2 K) Ms (tm (gH E A.2 K)) 0)(aq:∀t A,lk Ms t=some A->A.2.ix<E.kn->∀K,hE (gH (fV E) A.2 K) Ms (tm (gH (fV E) A.2 K)) 0)(z:(bf X s).P w)(hD:gu w X.rb D)(L:gq X E Ms D)(C:fo X l s D)(M:ei E s.g)(hp:s.p<E.T.length)(aA:s.tm<=65536):
  aj U oY #[.pointer (some (ad X.rb))] w (ea X l w (ji tm E s) kV):=by
 obtain⟨ht,_⟩:=pq hp;have hk:=M.T.k _ ht;have al:=M.T.n _ ht;have q:ji tm E s=if(aW E.T s.p).kind=1\/(aW E.T s.p).kind=4\/(aW E.T s.p).kind=6 then jl (aW E.T s.p)else
  if 65536<=s.tm then .er 4 (aW E.T s.p).a3 else
  if(aW E.T s.p).kind=2 then mY tm E (aW E.T s.p) {cK (aW E.T s.p) s with tm:=s.tm+1}else
  if(aW E.T s.p).kind=3 then eR {cK (aW E.T s.p) s with tm:=s.tm+1} (e7 (aW E.T s.p).text) (aW E.T s.p)else
  if(aW E.T s.p).kind=5 then eR {cK (aW E.T s.p) s with tm:=s.tm+1} ⟨2,[],0,0,0,ba (aW E.T s.p).text,bg⟩ (aW E.T s.p)else
  mH tm E (aW E.T s.p) {cK (aW E.T s.p) s with tm:=s.tm+1}:=rfl
 have am:=vA z hD L.tk hp;have ak:(aW E.T s.p).kind≠6->cK (aW E.T s.p) s={s with p:=s.p+1}/\s.p+1<E.T.length:=λW=>⟨ab W,M.T.nx hp W⟩;generalize aW E.T s.p=t at ht hk al q am ak;refine yG.au _ w _ (x9 (jf rfl z hD) 0 rfl rfl rfl am λw1 H1=>⟨_,_,_,rfl,H1.ay λB w2 F=>?_⟩);have F:O (·∈[X.rb]) w w2 [bf X (cK t s),.g B] D:=F;have bad:(t.kind=1\/t.kind=4\/t.kind=6)->∀e,O (·∈[X.rb]) w e [bf X (cK t s),.g B] D->yG.bA (ad X.rb) B t.kind (ba t.text) t.a3 e (ea X l w (ji tm E s) kV):=λH e h=>
  fI h (o7 _ t e) λV f=>fa (q.trans (ag H)) f
 have Q:¬(t.kind=1\/t.kind=4\/t.kind=6)->∀e,O (·∈[X.rb]) w e [bf X (cK t s),.g B] D->yG.aX (ad X.rb) B t.kind (ba t.text) t.a3 e (ea X l w (ji tm E s) kV):=λH e h=>by
  obtain⟨ha,av⟩:=ak (by omega);rw[ab H]at q;rw[ha]at h q;refine⟨(s.tm:Int),h.ld 0 10,aS (λW=>fI h (iR _ 4 t e) λV f=>fa (q.trans (ag (by omega))) f) (λW=>⟨(s.tm:Int),h.ld 0 10,h.gT 0 10 rfl (λw4 j=>?_)⟩)⟩;rw[ab (by omega)]at q;rw[bw _ (by omega)]at j;have j:O (·∈[X.rb]) w w4 [bf X {s with p:=s.p+1,tm:=s.tm+1},.g B] D:=j;have Z:fo X l {s with p:=s.p+1,tm:=s.tm+1} D:=⟨C.d,C.x,C.v,C.n⟩;have fin:∀{x:PR Nat} {D':List En} {V:J} {f:bU} {args:Array aa},ji tm E s=x->O (·∈[X.rb]) w V [bf X {s with p:=s.p+1,tm:=s.tm+1},.g B] D'->En.gr X.g l∈D'->aj U f args V (ea X l V x kV)->lf [B] U f args (ea X l w (ji tm E s) kV) V λr aw=>∃ah:Int,r=ae (.i ah)/\ea X l w (ji tm E s) kV (ae (.i ah)) aw:=λ{x D' V f args} ac an hg hc=>
   kX an 0 rfl hg hc (λah s' g' l' v w5 ao hv Y H G=>by subst hv;exact⟨_,rfl,nh (ac.trans ao) rfl (G.get 0) (bc.1 (G.rd _ Y.d)) Y.x ⟨Y.v,Y.n⟩ H G.fr⟩) (λe' p V er f=>fa (ac.trans er) f)
  refine ax (λy=>?_) (λy=>ax (λI=>?_) (λI=>ax (λS=>?_) (λS=>?_)))
  .exact fin (q.trans (ag y)) j C.d (Xu (t:=t) ap (j.get 0) (cF j (i:=0) rfl rfl) L Z M (by show s.tm+1<=65536;omega))
  .rw [ab y]at q;exact fin (q.trans (ag I)) j C.d (Xw (t:=t) (j.get 0) (cF j (i:=0) rfl rfl) Z L.kc (al I))
  .rw [ab y,ab I]at q;have G:=j.ek (cg ⟨⟨2,[],0,0,0,ba t.text,bg⟩,⟨none,0,0⟩⟩) (Fr.refl _ _) (Rd.nil _) (λb H=>by cases H);exact fin (q.trans (ag S)) G (bz _ C.d) (yO (t:=t) (d:=⟨⟨2,[],0,0,0,ba t.text,bg⟩,⟨none,0,0⟩⟩) (G.get 0) (cF G (i:=0) rfl rfl) (Z.sub λac he=>bz _ he) (bz _ L.kc) (b0 _ (bX.2 rfl)) ⟨by simp,(⟨by omega,by omega⟩:dx 0),(⟨by omega,by omega⟩:dx 0),Int.le_refl _,λz=>by cases z⟩)
  .rw [ab y,ab I,ab S]at q;exact fin q j C.d (Xq hS hN hf ar hC hI aq (t:=t) (j.get 0) (cF j (i:=0) rfl rfl) L Z M (be _) av (by show s.tm+1<=65536;omega))
 refine ax (λy=>ax (λ_=>F.af λe h=>Q (by omega) e h) (λz=>absurd y z)) (λy=>?_);refine ax (λy=>ax (λ_=>F.af λe h=>Q (by omega) e h) (λz=>absurd y z)) (λI=>?_);refine ax (λy=>ax (λ_=>F.af λe h=>Q (by omega) e h) (λz=>absurd y z)) (λS=>?_);exact ax (λh0=>F.af λe h=>Q (by omega) e h) (λh0=>F.af λe h=>bad (by omega) e h)
end
def DS{N:Nat}(y:k' N)(x:N+1<=1000000){T:List aR}{k:List (List UInt8×(Sl×PM))}(A:∀t∈T,t.kind=5->∀B,g6 t.text=.inr B->iG N (cu B.tp))(z:∀(tm:aI->PR Nat) (wd:List UInt8) (s:aI) (n:Nx) (s':aI),jc T tm wd s=.ok n s'->jW n):∀(f:Nat) (E:bS) (p0:Nat),E.T=T->min E.kn E.ms.length *(E.T.length+1)+(E.T.length - p0)+1<=f->hE E k (fQ f E) p0
 |0,E,p0,_,w=>by omega
 |f+1,E,p0,h,w=>λX W S s l P L D M F V O Q=>by
  have G:∀(E':bS) (t:List UInt8) (q:Sl×PM),E'.T=E.T->E'.ms=E.ms->lk k t=some q->q.2.ix<E.kn->∀d,hE (gH E' q.2 d) k (fQ f (gH E' q.2 d)) 0:=λE' t q C I e j d=>by refine DS y x A z f (gH E' q.2 d) 0 (C.trans h) ?_;have H:=(F.ms (t,q.2) (by rw[D.ms];exact cz.2 ⟨_,jb e,rfl⟩)).1;have H:q.2.ix<E.ms.length:=H;show min q.2.ix E'.ms.length *(E'.T.length+1)+(E'.T.length - 0)+1<=f;rw[C,I,show min q.2.ix E.ms.length=q.2.ix by omega];have K:(q.2.ix+1) *(E.T.length+1)<=min E.kn E.ms.length *(E.T.length+1):=jm _ (by omega);rw[Nat.succ_mul]at K;omega
  exact XB y x (by rw[h];exact A) (by rw[h];exact λwd s n s' w=>z _ wd s n s' w) (DS y x A z f (fV E) (s.p+1) h (by show min E.kn E.ms.length *(E.T.length+1)+(E.T.length - (s.p+1))+1<=f;omega)) (λs n s' _=>v7 f (fV E) s n s' (dc _))
   (λt q e j d=>G E t q rfl rfl e j d) (λt q e j d=>G (fV E) t q rfl rfl e j d) P L D M F O Q
def ZW{w:J}{ms:List (List UInt8×Nat)}{b:Nat}{es:Array MapEntry}{c:Nat}(h:w.heap[b]? =some (.map es c))(j:eG es (ms.map hS))(t:List UInt8):ow U (Instr.lookup ET (.map (some b)) (.string (ba t)) true) w=.ok (.tuple #[.i (((lk ms t).getD 0:Nat):Int),.bool (lk ms t).isSome]) w:=by have d:=u4 sw h j (ba t);rw[show ms.map hS=ms.map λe=>(ba e.1,(λn:Nat=>Value.i (n:Int)) e.2)from rfl,mh λn:Nat=>Value.i (n:Int)]at d;rw[d];cases lk ms t<;>rfl
def JD{w:J}{d:List (List UInt8×(Sl×PM))}{b:Nat}{es:Array MapEntry}{c:Nat}(j:w.heap[b]? =some (.map es c))(k:eG es (d.map oV))(t:List UInt8):ow U (Instr.lookup PX (.map (some b)) (.string (ba t)) true) w=.ok (.tuple #[.agg #[(lD d t).1.v,.i (((lD d t).2.b:Nat):Int),.i (((lD d t).2.ix:Nat):Int)],.bool (lk d t).isSome]) w:=by have e:=u4 xY j k (ba t);rw[show d.map oV=d.map λh=>(ba h.1,mW h.2)from rfl,mh mW]at e;rw[e];unfold lD;cases lk d t<;>rfl
def vl(E:bS)(s:aI):PR aR:=(bM E.T 2 s).b λt s=>if(lk E.vs t.text).isSome||(lk E.ms t.text).isSome then .er 8 t.a3 else .ok t s
section
variable {E:bS} {Ms:List (List UInt8×(Sl×PM))} {X:RC}
def Nu{w:J}{D:List En}{s:aI}(K:(bf X s).P w)(L:gu w X.rb D)(h:gq X E Ms D)(O:s.p<E.T.length):
  aj U yd #[.pointer (some (ad X.rb))] w (hD X w (vl E s) kY):=by
 obtain⟨es,c,M,Q⟩:=h.mv;obtain⟨ac,c2,C,F⟩:=h.mm;refine MX.au _ w _ ((jf rfl K L).ay λZ Y q=>ew q 0 rfl (hO (q.get 0) (cF q (i:=0) rfl rfl) h.tk O) (λt V w2 I G=>⟨_,_,_,rfl,G.ay λb3 w3 H=>H.af λw4 x=>?_⟩) (λaa p Y er f=>jF (fe er) f));have j:vl E s=if(lk E.vs t.text).isSome||(lk E.ms t.text).isSome then .er 8 t.a3 else .ok t V:=eS I
 have N:(lk E.ms t.text).isSome=(lk Ms t.text).isSome:=by rw[h.ms,xQ (λS:Sl×PM=>S.2)];cases lk Ms t.text<;>rfl
 rw[N]at j;refine⟨_,x.ld 0 5,_,_,ZW (x.rd _ M) Q t.text,x.af λw5 y=>⟨_,y.ld 0 6,_,_,_,_,JD (y.rd _ C) F t.text,y.ay λb6 w6 d=>⟨JD (d.rd _ C) F t.text,d.ld 0 6,?_⟩⟩⟩;refine bh (λz=>d.af λk e=>fI e (iR _ 8 t k) λW f=>jF (j.trans (ag (by rw[z];rfl))) f) (λz=>?_);refine bh (λA=>d.af λk e=>fI e (iR _ 8 t k) λW f=>jF (j.trans (ag (by rw[A,Bool.or_true]))) f) (λA=>?_);exact d.af λk e=>e.af λw8 B=>va (j.trans (ab (by rw[z,A];simp))) (B.get 0) B.fr
def PO(E:bS)(tm:aI->PR Nat)(s:aI):PR Nat:=(tm s).b λn d=>if(d.g[n]?).map (·.st)=some (a' 1)then .ok n d else .er 9 (aW E.T s.p).a3
def XC{tm:aI->PR Nat}{p0:Nat}(Y:hE E Ms tm p0)(hI:jt E tm p0){w:J}{D:List En}{s:aI}{l:List Nd}(H:(bf X s).P w)(Z:gu w X.rb D)(N:gq X E Ms D)(I:fo X l s D)(O:ei E s.g)(M:p0<=s.p)(A:s.p<E.T.length)(V:s.tm<=65536):
  aj U CJ #[.pointer (some (ad X.rb))] w (ea X l w (PO E tm s) kV):=by
 have Q:=N.tk;have L:=(pq A).2;have e:PO E tm s=(tm s).b λn q=>if(q.g[n]?).map (·.st)=some (a' 1)then .ok n q else .er 9 (aW E.T s.p).a3:=rfl;generalize aW E.T s.p=t at L e;refine MZ.au _ w _ ((jf rfl H Z).dr λw1 y=>⟨X.tk,y.ld 0 0,_,y.ld 0 1,zq (y.rd _ Q.t) rfl L λp ac c=>⟨t.kind,ba t.text,t.a3,c.c0,c.c1,c.c2,y.ay λb3 w2 z=>?_⟩⟩);have F:=EM (z.rd _ Q.t) (X:=(s.p:Int)) rfl L ac;refine⟨F.c0,F.c1,F.c2,z.ld 0 1,z.ld 0 0,z.af λw3 C=>?_⟩;refine kX (X:=X) C 0 rfl I.d (Y X w3 D s l (C.get 0) (cF C (i:=0) rfl rfl) N I O M A V) (λk q W B v w4 G hv j hb h=>?_) (λG p w' er f=>fa (e.trans (fe er)) f);subst hv;have e:=e.trans (eS G);obtain⟨g1,g2,g3⟩:=hI s k q M A V I.v O G;have S:=j.x;have ah:B.length=q.g.length:=by rw[<-S];simp[xs]
 have K:B[k]? =some (B[k]'(by omega)):=a5 (by omega);generalize B[k]'(by omega)=nd at K;have ae:q.g[k]? =some nd.x:=by rw[<-S];exact ou K
 rw[ae]at e;refine⟨_,rfl,W,by rw[add_add];exact h.ld 0 2,e4 (bc.1 (h.rd _ j.d)) (X:=(k:Int)) rfl K (λp A c=>⟨nd.x.st.k,nd.x.st.n,nd.x.st.x,c.s0,c.s1,c.s2,?_⟩)⟩;refine vP (a:=nd.x.st) (b:=a' 1) (λaa=>fI h (iR _ 9 t w4) λw' f=>fa (e.trans (ab λH=>aa (by simpa using H))) f) (λhe=>?_);exact nh (e.trans (ag (by rw[<-he];rfl))) rfl (h.get 0) (bc.1 (h.rd _ j.d)) j.x ⟨j.v,j.n⟩ hb h.fr
def XA{T:List aR}{w:J}{D:List En}{s:aI}(G:(bf X s).P w)(N:gu w X.rb D)(H:mE X T D)(A:s.p<T.length):
  aj U CI #[.pointer (some (ad X.rb))] w (hD X w (mi T (T.length+1) 0 s) λ_=>.tuple #[]):=by
 have hl:=H.e.l;have loop:∀(f d:Nat) (s:aI) (E:J) (x:PR Unit),s.p<T.length->T.length - s.p<f->d<=s.p->O (·∈[X.rb]) w E [bf X s] D->x=mi T f d s->sR.a0 (ad X.rb) (d:Int) E (hD X w x λ_=>.tuple #[]):=by
  intro f;induction f with
  |zero=>intro d s E x A W;omega
  |succ f Z=>
   intro d s E x A W hd F h;have h:x=if(aW T s.p).kind=6 then jl (aW T s.p)else if(aW T s.p).kind=1/\d=0 then jl (aW T s.p)else
    if(if(aW T s.p).kind=0 then d+1 else if(aW T s.p).kind=1 then d - 1 else d)=0 then .ok () (cK (aW T s.p) s)else mi T f (if(aW T s.p).kind=0 then d+1 else if(aW T s.p).kind=1 then d - 1 else d) (cK (aW T s.p) s):=h
   have L:=vA (F.get 0) (cF F (i:=0) rfl rfl) H A;have K:(aW T s.p).kind≠6->cK (aW T s.p) s={s with p:=s.p+1}/\s.p+1<T.length:=λq=>⟨ab q,H.e.nx A q⟩;generalize aW T s.p=t at h L K;refine sR.bJ _ _ _ _ (x9 F 0 rfl rfl rfl L λw2 M=>⟨_,_,_,rfl,M.ay λI w3 y=>?_⟩);have y:O (·∈[X.rb]) w w3 [bf X (cK t s),.g I] D:=y;have go:∀(z:Nat) (k:J),t.kind≠6->O (·∈[X.rb]) w k [bf X (cK t s),.g I] D->z<=s.p+1->(x=if z=0 then .ok () (cK t s)else mi T f z (cK t s))->sR.bb (ad X.rb) (z:Int) k (hD X w x λ_=>.tuple #[]):=λz k q j S h=>by obtain⟨Q,Y⟩:=K q;rw[Q]at j h;exact ax (λG=>va (val:=λ_=>.tuple #[]) (h.trans (ag (by omega))) (j.get 0) j.fr) (λG=>Z z {s with p:=s.p+1} k x Y (by show T.length - (s.p+1)<f;omega) S (j.take 1) (h.trans (ab (by omega))))
   refine ax (λB=>y.af λk j=>?_) (λB=>ax (λC=>?_) (λC=>ax (λq=>y.af λk j=>fI j (o7 _ t k) λw' f=>jF (h.trans (ag q)) f) (λq=>y.af λk j=>?_)))
   .rw [ab (by omega),ab (by omega),ag B]at h;rw[bw _ (by omega)];exact go (d+1) k (by omega) j (by omega) h
   .rw [ab (by omega)]at h;refine ax (λV=>y.af λk j=>fI j (o7 _ t k) λw' f=>jF (h.trans (ag ⟨C,by omega⟩)) f) (λV=>y.af λk j=>?_);rw[ab (by omega),ab B,ag C]at h;show sR.bb _ (aG .i64 ((d:Int) - 1)) _ _;rw[bm _ (by omega),show(d:Int) - 1=((d - 1:Nat):Int)by omega];exact go (d - 1) k (by omega) j (by omega) h
   .rw [ab q,ab (by omega),ab B,ab C]at h;exact go d k q j (by omega) h
 exact sR.au _ w _ (loop (T.length+1) 0 s w _ A (by omega) (dc _) (jf rfl G N) rfl)
end
def gX{w:J}{b:Nat}{v:aa}{T:aD}(d:(En.c b [v] T).P w):w.cell? (ad b)=some v:=by
 have:=cellAt (p:=ad b) (i:=0) (v:=v) d rfl (by simp)
 rwa[iz]at this
section
variable {E:bS} {Ms:List (List UInt8×(Sl×PM))} {X:RC}
def v3(E:bS)(tm:aI->PR Nat)(s:aI):PR Nat:=(tm s).b λn s=>(bM E.T 6 s).b λ_ s=>.ok n s
def oD(X:RC)(j:Nat)(l:List Nd)(w:J)(x:PR Nat):aC:=λr d=>match x with
 |.ok n k=>r=ae (.tuple #[])/\(En.c j [.i (n:Int)] bn).P d/\∃e h,(bf {X with g:=e} k).P d/\GP d e h/\xs h=k.g/\(∀b∈(En.gr e h).fp,b∈(En.gr X.g l).fp\/w.heap.size<=b)/\Fr (·∈[X.rb,j]) w d
 |.er q p=>r=.panicked (hl q p)/\Fr (·∈[X.rb,j]) w d
def Zr{j:Nat}{l:List Nd}{w V:J}{x:PR Nat}{n:Nat}{s':aI}{d:Sl}{h:List Nd}(e:x=.ok n s')(A:(En.c j [.i (n:Int)] bn).P V)(k:(bf {X with g:=d} s').P V)(y:GP V d h)(z:xs h=s'.g)(q:∀b∈(En.gr d h).fp,b∈(En.gr X.g l).fp\/w.heap.size<=b)(f:Fr (·∈[X.rb,j]) w V):oD X j l w x (ae (.tuple #[])) V:=by subst e;exact⟨rfl,A,d,h,k,y,z,q,f⟩
def Pq{d:Nat}{l:List Nd}{w V:J}{x:PR Nat}{e:Int}{p:Nat}(h:x=.er e p)(f:Fr (·∈[X.rb,d]) w V):oD X d l w x (.panicked (hl e p)) V:=by subst h;exact⟨rfl,f⟩
def Xm{tm:aI->PR Nat}{p0:Nat}(W:hE E Ms tm p0)(Y:jt E tm p0){w:J}{D:List En}{s:aI}{l:List Nd}{Q j:Nat}{ac:aa}(H:O (·∈[X.rb,j]) w w [bf X s,.c j [ac] bn] D)(M:En.c Q [.pointer (some (ad X.rb))] mx∈D)(G:gq X E Ms D)(A:fo X l s D)(K:ei E s.g)(F:p0<=s.p)(L:s.p<E.T.length)(N:s.tm<=65536):
  aj U Cv #[.pointer (some (ad Q)),.pointer (some (ad j))] w (oD X j l w (v3 E tm s)):=by
 have y:v3 E tm s=(tm s).b λn s=>(bM E.T 6 s).b λ_ s=>.ok n s:=rfl;refine MN.ok _ _ w _ ⟨_,gX (H.rd _ M),kX (X:=X) (bs:=[]) H 0 rfl A.d (W X w D s l (H.get 0) (cF H (i:=0) rfl rfl) G A K F L N) (λk B h P v w1 q hv I hb S=>?_) (λq p w' er f=>Pq (y.trans (fe er)) f)⟩;subst hv;have y:=y.trans (eS q);obtain⟨V,g2,g3⟩:=Y s k B F L N A.v K q;refine⟨_,rfl,S.eC 1 rfl λw2 e=>⟨_,gX (e.rd _ (bz _ M)),?_⟩⟩;have e:O (·∈[X.rb,j]) w w2 [bf {X with g:=h} B,.c j [.i (k:Int)] bn] (D++[.gr h P]):=e;have Z:mE {X with g:=h} E.T (D++[.gr h P]):=(G.sub h λq he=>bz _ he).tk;refine ew (X:={X with g:=h}) (bs:=[]) e 0 rfl (hO (e.get 0) (cF e (i:=0) rfl rfl) Z V.l) (λc s2 w3 C z=>⟨_,_,_,rfl,?_⟩) (λq p w' er f=>Pq (y.trans (fe er)) f);have ab:s2.g=B.g:=by obtain⟨q1,q2,q3⟩:=oZ C;rw[q3];unfold cK;split<;>rfl
 exact Zr (y.trans (eS C)) (z.get 1) (z.get 0) (bc.1 (z.rd _ I.d)) (by rw[ab];exact I.x) hb z.fr
end
def Jy:nA U ZG fk ZE (.bool false):=by constructor<;>kernel_rfl
def Tp:fS U ZM k0 (.agg #[.string (bj #[]),.int .i64 0,.int .i64 0,.int .i64 0]) 4 40:=⟨by kernel_rfl,by kernel_rfl,rfl,by decide,by decide⟩
def Tn:fS U zy iW (.agg #[.int .i64 0,.string (bj #[]),.int .i64 0,.int .i64 0,.int .i64 0,.int .i64 0,.int .i64 0]) 7 64:=⟨by kernel_rfl,by kernel_rfl,rfl,by decide,by decide⟩
def Vj{P:aw}{T kt e ty:aD}{y:aa}(x:nA P T kt e y){w:J}{d:Nat}{es:Array MapEntry}{clock:Nat}{ms:List (ByteArray×aa)}(k:w.heap[d]? =some (.map es clock))(q:eG es ms):(Builtin.len_ #[T] ty #[.map (some d)]).run P w=.ok (.i ((ms.length:Nat):Int)) w:=by
 have j:(getObj d).run P w=.ok (.map es clock) w:=by simp[getObj,ow,k]
 have h:es.size=ms.length:=by have:=congrArg List.length q;simpa using this
 simp[Builtin.len_,Sem.run_bind,run_underlying x.hT,j,h,goInt]
def Eh(q:List UInt8×aU):ByteArray×aa:=(ba q.1,.bool true)
def Oz(ps:List (List UInt8×aU))(t:List UInt8):kS (ps.map Eh) (ba t)=(lk ps t).map λ_=>Value.bool true:=by rw[show ps.map Eh=ps.map λd=>(ba d.1,(λ_:aU=>Value.bool true) d.2)from rfl,mh λ_:aU=>Value.bool true]
section
variable {X:RC} {T:List aR}
def wE(X:RC)(d:Nat)(ix:Int)(D:List En)(w:J)(x:PR (List (List UInt8×aU))):aC:=λr e=>match x with
 |.ok j k=>r=ae (.tuple #[])/\∃sl:Sl,O (·∈[X.rb,d]) w e [bf X k,.c d [sl.v,.i 0,.i ix] il,.row k0 4 sl (eM j)] D
 |.er h p=>r=.panicked (hl h p)/\Fr (·∈[X.rb,d]) w e
def vp{d:Nat}{ix:Int}{D:List En}{w V:J}{x:PR (List (List UInt8×aU))}{e:Int}{p:Nat}(h:x=.er e p)(f:Fr (·∈[X.rb,d]) w V):wE X d ix D w x (.panicked (hl e p)) V:=by subst h;exact⟨rfl,f⟩
def Xx{w:J}{D:List En}{s:aI}{pb k:Nat}{ix:Int}(H:O (·∈[X.rb,k]) w w [bf X s,.c k [.slice none 0 0,.i 0,.i ix] il] D)(C:En.c pb [.pointer (some (ad X.rb))] mx∈D)(q:mE X T D)(K:s.p<T.length):
  aj U CC #[.pointer (some (ad pb)),.pointer (some (ad k))] w (wE X k ix D w (m3 T (T.length+1) [] s)):=by
 have hl:=q.e.l;have loop:∀(z f:Nat) (ps:List (List UInt8×aU)) (s:aI) (E:J) (sl:Sl) (es:Array MapEntry) (c:Nat) (x:PR (List (List UInt8×aU))),s.p<T.length->T.length - s.p<f->ps.length<=s.p->eG es (ps.map Eh)->
   O (·∈[X.rb,k]) w E [bf X s,.c k [sl.v,.i 0,.i ix] il,.row k0 4 sl (eM ps),.ob z (.map es c)] D->x=m3 T f ps s->
   yD.a0 (ad pb) (ad k) (some z) E (wE X k ix D w x):=by
  intro z f;induction f with
  |zero=>intro ps s E sl es c x K hf;omega
  |succ f ih=>
   intro ps s E sl es c x K hf aC al H d;have d:x=if(aW T s.p).kind=1 then .ok ps (cK (aW T s.p) s)else if(aW T s.p).kind≠0 then jl (aW T s.p)else
    (bM T 2 (cK (aW T s.p) s)).b λp s=>if(lk ps p.text).isSome then .er 8 p.a3 else(ic T s).b λF s=>(bM T 1 s).b λ_ s=>m3 T f (ps++[(p.text,F)]) s:=d
   have ai:=vA (H.get 0) (cF H (i:=0) rfl rfl) q K;have ae:(aW T s.p).kind≠6->cK (aW T s.p) s={s with p:=s.p+1}/\s.p+1<T.length:=λh6=>⟨ab h6,q.e.nx K h6⟩;generalize aW T s.p=t at d ai ae;refine yD.bJ _ _ _ _ _ ⟨_,gX (H.rd _ C),x9 H 0 rfl rfl rfl ai λw2 H2=>⟨_,_,_,rfl,H2.ay λb3 w3 G=>?_⟩⟩;have G:O (·∈[X.rb,k]) w w3 [bf X (cK t s),.c k [sl.v,.i 0,.i ix] il,.row k0 4 sl (eM ps),.ob z (.map es c),.g b3] D:=G;refine ax (λN=>G.af λQ h=>?_) (λN=>bY (λY=>G.af λQ h=>⟨_,gX (h.rd _ C),fI h (o7 _ t Q) λP f=>vp (d.trans (by rw[ab N,ag Y];rfl)) f⟩) (λY=>G.af λQ h=>?_))
   .rw [ag N]at d;subst d;exact⟨rfl,sl,h.take 3⟩
   obtain⟨ha,ak⟩:=ae (by omega);rw[ab N,ab (by simpa using Y),ha]at d;rw[ha]at h;have h:=h.take 4;have h:O (·∈[X.rb,k]) w Q [bf X {s with p:=s.p+1},.c k [sl.v,.i 0,.i ix] il,.row k0 4 sl (eM ps),.ob z (.map es c)] D:=h;refine⟨_,gX (h.rd _ C),ew (bs:=[]) h 0 rfl (hO (h.get 0) (cF h (i:=0) rfl rfl) q ak) (λp s2 w5 e2 H5=>⟨_,_,_,rfl,H5.ay λb4 w6 H6=>H6.af λw7 y=>?_⟩) (λA p P er f=>vp (d.trans (fe er)) f)⟩;have d:=d.trans (eS e2);have Z:=dW q.e (by exact ak) (by decide) e2;have ah:=Ji Jy (y.ob 3) al (ba p.text);rw[Oz]at ah;refine⟨(lk ps p.text).isSome,by rw[ah];cases lk ps p.text<;>rfl,bh (λL=>⟨_,gX (y.rd _ C),fI y (iR _ 8 p w7) λP f=>vp (d.trans (ag L)) f⟩) (λL=>?_)⟩;rw[ab (by rw[L];simp)]at d;have ar:lk ps p.text=none:=by
    cases aq:lk ps p.text with
    |none=>rfl
    |some _=>rw[aq]at L;cases L
   obtain⟨w8,W,u1,u2,u3,u4,_⟩:=tD Jy (y.ob 3) al (ba p.text) (.bool true) (by rw[Oz,ar];rfl);have V:=y.fC 3 (.ob z (.map W (c+1))) rfl (u4.mono λx _ A=>by simp[En.ob,A]) u2 (λb B=>.inl B);have V:O (·∈[X.rb,k]) w w8 [bf X s2,.c k [sl.v,.i 0,.i ix] il,.row k0 4 sl (eM ps),.ob z (.map W (c+1)),.g b4] D:=V;refine⟨w8,u1,λb B=>u4.ck b ((En.g b).lt w7 (y.own (.g b) (by simp only[bX]at B;subst B;simp)) b (by simp[En.g])) λA=>?_,V.af λw9 I=>?_⟩
   .simp only[bX]at B;subst B;exact i5 y.nd (i:=4) (j:=3) rfl rfl (by decide) b (by simp[En.g]) (by simp[En.ob,A])
   refine⟨sl,I.ld 1 0,_,gX (I.rd _ C),ew I 0 rfl (DR (I.get 0) (cF I (i:=0) rfl rfl) q Z.l) (λF s3 az e3 ac=>⟨_,_,_,rfl,ac.ld 1 0,ac.sI λaA _ S av=>?_⟩) (λA p P er f=>vp (d.trans (fe er)) f)⟩;have d:=d.trans (eS e3);have aa:=(th q.e Z.l e3).1;have aD:sl.n=ps.length:=qC (show aK aA k0 4 sl (eM ps)from S.get 2).a7;have q2:=Z.p;have q2:s.p+1<s2.p:=q2;refine⟨S.ld 1 0,S.eb 2 Tp (s:=sl) (src:=⟨some (ad az.heap.size),1,1⟩) (news:=vq (p.text,F)) rfl ⟨rfl,be _,(uc (sz:=4) av rfl).2.2⟩ (by simp[Value.oneCell']) (by show(sl.n+1) *40<=_;omega) (λaw aE an=>an.gT 1 0 rfl λaF M=>?_)⟩;refine⟨_,gX (M.rd _ C),ew M 0 rfl (hO (M.get 0) (cF M (i:=0) rfl rfl) q aa.l) (λcl s4 aB e4 ao=>⟨_,_,_,rfl,?_⟩) (λA p P er f=>vp (d.trans (fe er)) f)⟩;have d:=d.trans (eS e4);have am:=dW q.e aa.l (by decide) e4;have q3:=aa.p;have q4:=am.p;refine ih (ps++[(p.text,F)]) s4 aB aw W (c+1) x am.l (by omega) (by rw[b'];simp;omega) ?_ ?_ d
   .rw [dX];exact u3
   .have ap:=ao.take 4;have e5:eM (ps++[(p.text,F)])=eM ps++vq (p.text,F):=by unfold eM;rw[cC];simp
    rw[e5];exact ap
 refine yD.au _ _ w _ (j' (H.h' k0 4) λE H1=>?_);exact loop w.heap.size (T.length+1) [] s E ⟨none,0,0⟩ #[] 0 _ K (by omega) (dc _) rfl H1 rfl
end
end Go.Proofs.YtahmokchdhengaaGreatDoor
