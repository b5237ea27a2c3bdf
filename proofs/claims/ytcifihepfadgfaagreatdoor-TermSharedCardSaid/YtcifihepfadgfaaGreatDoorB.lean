import Derived.Test.YtcifihepfadgfaaGreatDoorV
import Derived.Test.YtcifihepfadgfaaGreatDoorW
import Derived.Lib.AppendStr
import Derived.Laws.IdiomStrings
import Derived.IntWalk
set_option linter.unusedVariables false
namespace Go.Proofs.YtcifihepfadgfaaGreatDoor
open List renaming mem_append->fW,getElem?_eq_getElem->gW
open Go Go.W Go.RowKit Go.Lib
theorem pI:iJ Tryz.prog bL dE (.int .u8 0) 1 1:=⟨by kernel_rfl,by kernel_rfl,rfl,by decide,by decide⟩
theorem uW:iJ Tryz.prog gq bW (.int .i64 0) 1 8:=⟨by kernel_rfl,by kernel_rfl,rfl,by decide,by decide⟩
abbrev Bytes (w:World) (s:Sl) (bs:List UInt8):Prop:=Rd w s (bs.map og)
abbrev nO (w:World) (s:Sl) (bs:List UInt8):Prop:=Ow w dE s (bs.map og)
abbrev fB (w:World) (s:Sl) (l:List Int):Prop:=Rd w s (l.map jm)
theorem Bytes.len {w:World} {s:Sl} {bs:List UInt8} (h:Bytes w s bs):s.n=bs.length:=by simpa using h.1
theorem fB.len {w:World} {s:Sl} {bs:List Int} (h:fB w s bs):s.n=bs.length:=by simpa using h.1
theorem Bytes.cell {w:World} {s:Sl} {bs:List UInt8} (h:Bytes w s bs) {i j:Nat} {b:UInt8} (hi:bs[i]? =some b) (hj:j=i *1) {K:Addr->Prop} (hk:∀p,s.a=some p->w.cell? (p.add j)=some (.int .u8 (b.toNat:Int))->K p):W.aX s.a K:=
 Rd.get h (i:=i) (v:=og b) (by simp [hi]) hj hk
theorem fB.cell {w:World} {s:Sl} {l:List Int} (h:fB w s l) {i j:Nat} {b:Int} (hi:l[i]? =some b) (hj:j=i *1) {K:Addr->Prop} (hk:∀p,s.a=some p->w.cell? (p.add j)=some (.int .i64 b)->K p):W.aX s.a K:=
 Rd.get h (i:=i) (v:=jm b) (by simp [hi]) hj hk
theorem Bytes.sub {w:World} {s:Sl} {bs:List UInt8} (h:Bytes w s bs) (l hi:Nat) (hl:l<=hi) (hh:hi<=bs.length):Bytes w (sub s l hi) ((bs.take hi).drop l):=by
 have:=Rd.sub h l hi hl (by simpa using hh)
 rwa [<-List.map_take,<-List.map_drop] at this
theorem fB.sub {w:World} {s:Sl} {bs:List Int} (h:fB w s bs) (l hi:Nat) (hl:l<=hi) (hh:hi<=bs.length):fB w (sub s l hi) ((bs.take hi).drop l):=by
 have:=Rd.sub h l hi hl (by simpa using hh)
 rwa [<-List.map_take,<-List.map_drop] at this
theorem uJ {ty:TypeId} {w:World} {s src:Sl} {xs ys:List UInt8} (ho:nO w s xs) (hr:Bytes w src ys) (hb:xs.length+ys.length<=140737488355328):
  ∃s' w',(Builtin.append_ #[bL,bL] ty #[s.v,src.v]).run Tryz.prog w=.ok s'.v w'/\nO w' s' (xs++ys)/\Fr (λb=>b∈bC s) w w'/\(∀b∈bC s',b∈bC s\/w.heap.size<=b)/\(s'.a=none->s.a=none/\ys=[]):=by
 obtain ⟨s',w',g1,g2,g3,g4,g5⟩:=Jf (ty:=ty) pI ho hr (Ji _) (by simpa using hb)
 exact ⟨s',w',g1,by unfold nO;rw [List.map_append];exact g2,g3,g4,λh=>⟨(g5 h).1,by simpa using (g5 h).2⟩⟩
theorem T6 (w:World) (T:TypeId) (cs:List Value) (h:cs.length<=1000000):Rd (w.alloc (.cells cs.toArray T)) ⟨some ⟨w.heap.size,0,none⟩,cs.length,cs.length⟩ cs:=(Ow.made w T cs _ rfl h).rd
theorem MW (w:World) (b:UInt8):Bytes (w.alloc (.cells #[.int .u8 (b.toNat:Int)] dE)) ⟨some ⟨w.heap.size,0,none⟩,1,1⟩ [b]:=T6 w dE [og b] (by simp)
def bl (s:ByteArray):List UInt8:=s.data.toList
def ba (l:List UInt8):ByteArray:=⟨l.toArray⟩
theorem yq (l:List UInt8):bl (ba l)=l:=rfl
theorem AK (s:ByteArray):ba (bl s)=s:=rfl
theorem iK (s:ByteArray):(bl s).length=s.size:=rfl
theorem cE (l:List UInt8):(ba l).size=l.length:=by simp [ba,ByteArray.size]
theorem EU (s:ByteArray):strCells s=(bl s).map og:=by
 simp [strCells,bl,og]
theorem vJ:Tryz.prog.underlying cI=some .string:=by kernel_rfl
theorem NO:Tryz.prog.underlying dE=some (.int .u8):=by kernel_rfl
theorem FK {ty:TypeId} {w:World} {s:Sl} {xs:List UInt8} (ho:nO w s xs) (t:ByteArray) (hb:xs.length+t.size<=140737488355328):
  ∃s' w',(Builtin.append_ #[bL,cI] ty #[s.v,.string t]).run Tryz.prog w=.ok s'.v w'/\nO w' s' (xs++bl t)/\Fr (λb=>b∈bC s) w w'/\(∀b∈bC s',b∈bC s\/w.heap.size<=b):=by
 obtain ⟨i,hi,hz,l8,HX⟩:=info_parts pI.hi
 have hn:s.n=xs.length:=by simpa using ho.1
 have main:∀base,base<=w.heap.size->w.ownsRow base dE 1 s.v s.n (xs.map og)->∃v' w',(Builtin.append_ #[bL,cI] ty #[s.v,.string t]).run Tryz.prog w=.ok v' w'/\w'.ownsRow base dE 1 v' (s.n+t.size) (xs.map og++strCells t)/\w.grownBy w' s.v.ownBlock/\(v'=.slice none 0 0↔s.v=.slice none 0 0/\t.size=0):=
  λbase JB h0=>run_append_own_string (P:=Tryz.prog) w base bL cI ty dE i pI.ht vJ hi hz l8 HX s.v s.n (xs.map og) h0 t (by unfold maxLen;omega) (by omega) JB
 obtain ⟨v',w',lI,Ap,V5,JH⟩:=main 0 (Nat.zero_le _) ho.2
 have hv:∃s':Sl,v'=s'.v/\s'.n=s.n+t.size:=by
  rcases Ap.2 with ⟨h1,h2⟩|⟨g,cap,cur,h1,_⟩
  .exact ⟨⟨none,0,0⟩,h1,by show 0=_;omega⟩
  .exact ⟨⟨_,_,_⟩,h1,rfl⟩
 obtain ⟨s',rfl,wu⟩:=hv
 have A7:Fr (λb=>b∈bC s) w w':=by
  refine Fr.grown V5 λg hg=>?_
  rw [ui] at hg
  cases Aq:s.a with
  |none=>simp [Aq] at hg
  |some p=>simp [Aq] at hg;simp [bC,Aq,hg]
 refine ⟨s',w',lI,⟨?_,?_⟩,A7,?_⟩
 .rw [wu,hn];simp [iK]
 .have h2:=Ap
  rw [EU,<-List.map_append] at h2
  unfold aP;rw [wu];exact h2
 .intro g hg
  rcases ho.2.cases with ⟨rfl,hx⟩|⟨g0,cur,Re,V4,Wd,XF,Gn,N2⟩
  .obtain ⟨v2,w2,D7,D4,_,_⟩:=main w.heap.size (Nat.le_refl _) (by rw [hx];exact World.ownsRow_nil w _ _ _)
   have e1:(Result.ok s'.v w':Result Value)=.ok v2 w2:=lI.symm.trans D7
   have e2:=(Result.ok.inj e1).1
   subst e2
   rcases D4.2 with ⟨h1,_⟩|⟨g2,VE,VH,h1,h2,_⟩
   .have:s'.a=none:=(Value.slice.inj h1).1
    simp [bC,this] at hg
   .have:s'.a=some ⟨g2,0,none⟩:=(Value.slice.inj h1).1
    simp [bC,this] at hg
    exact .inr (hg▸h2)
  .obtain ⟨sa0,Ka,Nj⟩:=s
   simp only at Re Wd Gn N2 hn
   subst Re
   by_cases yX:Ka+t.size<=Nj
   .have D6:=run_append_room_string (P:=Tryz.prog) w bL cI ty dE i pI.ht vJ hi l8 g0 Ka Nj cur V4 t yX (by omega)
    have e1:=lI.symm.trans D6
    have:s'.a=some ⟨g0,0,none⟩:=(Value.slice.inj (Result.ok.inj e1).1).1
    simp [bC,this] at hg ⊢
    exact .inl hg
   .have holds:∀j u,(xs.map og)[j]? =some u->w.cell? ((⟨g0,0,none⟩:Addr).add j)=some u:=World.ownsRow.cells (g:=g0) ho.2 rfl
    have D6:=run_append_grow_string (P:=Tryz.prog) w bL cI ty dE i (.int .u8 0) pI.ht vJ hi hz ⟨g0,0,none⟩ Ka Nj (xs.map og) (by rw [l8];simp;omega) holds t (by omega) (by omega) (growslice_fits (by omega) (by rw [HX];omega))
    have e1:=lI.symm.trans D6
    have:s'.a=some ⟨w.heap.size,0,none⟩:=(Value.slice.inj (Result.ok.inj e1).1).1
    simp [bC,this] at hg
    exact .inr (by omega)
theorem qD {w:World} {s:Sl} {bs:List UInt8} (h:Bytes w s bs):(Go.convert bL cI s.v).run Tryz.prog w=.ok (.string (ba bs)) w:=by
 obtain ⟨a,n,c⟩:=s
 have hn:=Bytes.len h
 simp only at hn
 subst hn
 cases a with
 |none=>
  obtain ⟨e1,e2⟩:=h.2.2.1 rfl
  simp only at e1 e2
  obtain rfl:bs=[]:=List.eq_nil_of_length_eq_zero e1
  rw [run_convert_bytes_string (P:=Tryz.prog) w bL cI dE _ _ _ pI.ht NO vJ]
  rfl
 |some p=>
  refine run_convert_bytes_back (P:=Tryz.prog) w bL cI dE p c bs pI.ht NO vJ λj hj=>?_
  obtain ⟨q,hq,hc⟩:=h.2.2.2 j (og bs[j]) (by simp [gW hj])
  cases hq;exact hc
theorem M8 {w:World} {s:Sl} {vs:List Value} (hn:s.n=vs.length) (hc:s.n<=s.c) (h0:s.a=none->s.c=0) (h:∀i v,vs[i]? =some v->∃p,s.a=some p/\w.cell? (p.add i)=some v):Rd w s vs:=
 ⟨hn,hc,λha=>⟨by have:=h0 ha;omega,h0 ha⟩,h⟩
def ArgNums (w:World) (s:Sl):Prop:=∃l:List Int,fB w s l/\l.length<=9223372036854775807/\∀x∈l,-9223372036854775808<=x/\x<=9223372036854775807
theorem arg_nums_nil (w:World):ArgNums w ⟨none,0,0⟩:=⟨[],Rd.nil w,by simp,by simp⟩
theorem arg_nums (w:World) (x:Addr) (len cap:Nat) (zs:List Int) (hz:len<=zs.length) (hl:len<=cap) (hm:cap<=maxLen) (hc:∀i,i<zs.length->w.cell? (x.add i)=some (.int .i64 (zs.getD i 0))) (hw:∀n∈zs,IntKind.min .i64<=n/\n<=IntKind.max .i64):ArgNums w ⟨some x,len,cap⟩:=by
 refine ⟨zs.take len,M8 (by simp;omega) hl (λh=>by cases h) (λi v hi=>?_),?_,λn hn=>hw n (List.mem_of_mem_take hn)⟩
 .rw [List.getElem?_map,List.getElem?_take] at hi
  split at hi
  .have l6:i<zs.length:=by omega
   refine ⟨x,rfl,?_⟩
   rw [hc i l6,List.getD_eq_getElem?_getD]
   rw [gW l6] at hi ⊢
   simpa [jm] using hi
  .simp at hi
 .have:len<=maxLen:=by omega
  unfold maxLen at this
  simp;omega
def KV (w:World) (bs:List UInt8):aD:=λr w'=>∃s:Sl,r=.returned s.v/\nO w' s bs/\bI w w'/\∀b∈bC s,w.heap.size<=b
open Go Go.W
def dG (n m:Int):Int:=if n<0 then Int.tmod (0 - (n+1)) m else Int.tmod n m
theorem cR (n m:Int) (hm:1<=m):0<=dG n m/\dG n m<m:=by
 unfold dG
 split
 .exact ⟨Int.tmod_nonneg _ (by omega),Int.tmod_lt_of_pos _ (by omega)⟩
 .exact ⟨Int.tmod_nonneg _ (by omega),Int.tmod_lt_of_pos _ (by omega)⟩
abbrev ow (n:Int):Prop:=-9223372036854775808<=n/\n<=9223372036854775807
theorem yj (n m:Int) (w:World) (hm:1<=m) (h:ow n):
  Calls Tryz.prog aS #[.int .i64 n,.int .i64 m] w λr w'=>r=.returned (.int .i64 (dG n m))/\w=w':=by
 obtain ⟨h1,h2⟩:=h
 refine enthymemeref01_Around.ok n m w _ ?_
 refine aZ (λh=>?_) (λh=>?_)
 .have h':n<0:=by simpa using h
  refine ⟨by omega,?_,rfl⟩
  rw [show IntKind.wrap .i64 (n+1)=n+1 from IntWalk.i64_in _ (by omega),show IntKind.wrap .i64 (0 - (n+1))=0 - (n+1) from IntWalk.i64_in _ (by omega)]
  unfold dG;rw [if_pos h']
 .have h':¬n<0:=by simpa using h
  refine ⟨by omega,?_,rfl⟩
  unfold dG;rw [if_neg h']
theorem J9 {w:World} {s t:Sl} {a b:List Int} (ha:fB w s a) (hb:fB w t b) (hl:a.length<=1000000000000):
  Calls Tryz.prog iN #[s.v,t.v] w λr w'=>r=.returned (.bool (decide (a=b)))/\bI w w':=by
 have hn:=fB.len ha
 have hm:=fB.len hb
 refine enthymemeref01_SameInts.ok s t w _ ?_
 refine aZ (λh=>?_) (λh=>?_)
 .refine ⟨?_,Fr.refl _ _⟩
  have:a≠b:=λe=>by subst e;rw [hn,hm] at h;simp at h
  simp [this]
 .have hlen:a.length=b.length:=by rw [hn,hm] at h;simp at h;omega
  have main:∀(n i:Nat),i+n=a.length->a.take i=b.take i->∀w',bI w w'->enthymemeref01_SameInts.L0 s t (i:Int) w' λr w'=>r=.returned (.bool (decide (a=b)))/\bI w w':=by
   intro n
   induction n with
   |zero=>
    intro i hi he w' hf
    refine enthymemeref01_SameInts.cF _ _ _ _ _ ?_
    refine aL (by rw [hn];simp;omega) ⟨?_,hf⟩
    rw [List.take_of_length_le (by omega),List.take_of_length_le (by omega)] at he
    simp [he]
   |succ n ih=>
    intro i hi he w' hf
    have hia:a[i]? =some a[i]:=gW (by omega)
    have U1:b[i]? =some b[i]:=gW (by omega)
    refine enthymemeref01_SameInts.cF _ _ _ _ _ ?_
    have fd:bI w w'.drew:=hf.Ab (Fr.drew _ _)
    refine aQ (by rw [hn];simp;omega) ⟨by omega,by rw [hn];omega,fB.cell (ha.oR fd) hia (by simp) λp _ hp=>⟨_,hp,by omega,by rw [hm];omega,fB.cell (hb.oR fd) U1 (by simp) λq _ hq=>⟨_,hq,aZ (λh=>?_) (λh=>?_)⟩⟩⟩
    .refine ⟨?_,fd⟩
     have:a≠b:=λe=>by subst e;simp at h
     simp [this]
    .show enthymemeref01_SameInts.L0 s t (IntKind.wrap .i64 ((i:Int)+1)) _ _
     rw [show IntKind.wrap .i64 ((i:Int)+1)=((i+1:Nat):Int) from by rw [IntWalk.i64_in _ (by omega)];omega]
     refine ih (i+1) (by omega) ?_ _ fd
     have e:a[i]=b[i]:=by
      simpa using h
     rw [List.take_add_one,List.take_add_one,hia,U1,he,e]
  exact main a.length 0 (by omega) (by simp) w (Fr.refl _ _)
theorem mu {w:World} (D:List En) (h:∀e∈D,e.P w):LH F0 w w [] D:=LH.start D h
inductive Rx where
 |mk (k:Int) (lo hi:UInt8) (l:List Rx)
inductive Rt where
 |mk (k:Int) (lo hi:UInt8) (s:Sl) (l:List Rt)
namespace Rt
def k:Rt->Int|.mk k _ _ _ _=>k
def lo:Rt->UInt8|.mk _ lo _ _ _=>lo
def hi:Rt->UInt8|.mk _ _ hi _ _=>hi
def s:Rt->Sl|.mk _ _ _ s _=>s
def l:Rt->List Rt|.mk _ _ _ _ l=>l
mutual
def rx:Rt->Rx|.mk k lo hi _ l=>.mk k lo hi (bU l)
def bU:List Rt->List Rx
 |[]=>[]
 |t::l=>t.rx::bU l
end
mutual
def sz:Rt->Nat|.mk _ _ _ _ l=>1+fK l
def fK:List Rt->Nat
 |[]=>0
 |t::l=>t.sz+fK l
end
def c (t:Rt):List Value:=[.int .i64 t.k,.int .u8 (t.lo.toNat:Int),.int .u8 (t.hi.toNat:Int),t.s.v]
abbrev v (t:Rt):Value:=.agg #[.int .i64 t.k,.int .u8 (t.lo.toNat:Int),.int .u8 (t.hi.toNat:Int),t.s.v]
abbrev row (s:Sl) (l:List Rt):En:=.jh 4 s (l.flatMap c)
mutual
def P (w:World):Rt->Prop|.mk _ _ _ s l=>jO 4 w s (l.flatMap c)/\Ps w l
def Ps (w:World):List Rt->Prop
 |[]=>True
 |t::l=>P w t/\Ps w l
end
mutual
def fp:Rt->List Nat|.mk _ _ _ s l=>(row s l).fp++gK l
def gK:List Rt->List Nat
 |[]=>[]
 |t::l=>fp t++gK l
end
theorem xd (t:Rt):(c t).length=4:=rfl
theorem iL (l:List Rt):(l.flatMap c).length=l.length *4:=oh c 4 xd l
theorem cC {w:World} {s:Sl} {l:List Rt} (h:jO 4 w s (l.flatMap c)):s.n=l.length:=by
 have:=h.1
 rw [iL] at this
 omega
theorem eW:∀l:List Rt,bU l=l.map rx
 |[]=>rfl
 |t::l=>by unfold bU;rw [eW l];rfl
mutual
theorem gV {w w':World}:∀(t:Rt),(∀b∈t.fp,b<w.heap.size->w'.heap[b]? =w.heap[b]?)->P w t->P w' t
 |.mk k lo hi s l,h,hp=>by
  unfold fp at h
  unfold P at hp ⊢
  exact ⟨(row s l).st w w' (λb hb=>h b (List.mem_append_left _ hb)) hp.1,keeps l (λb hb=>h b (List.mem_append_right _ hb)) hp.2⟩
theorem keeps {w w':World}:∀(l:List Rt),(∀b∈gK l,b<w.heap.size->w'.heap[b]? =w.heap[b]?)->Ps w l->Ps w' l
 |[],_,_=>by unfold Ps;trivial
 |t::l,h,hp=>by
  unfold gK at h
  unfold Ps at hp ⊢
  exact ⟨gV t (λb hb=>h b (List.mem_append_left _ hb)) hp.1,keeps l (λb hb=>h b (List.mem_append_right _ hb)) hp.2⟩
end
mutual
theorem lt {w:World}:∀(t:Rt),P w t->∀b∈t.fp,b<w.heap.size
 |.mk k lo hi s l,hp,b,hb=>by
  unfold fp at hb
  unfold P at hp
  rcases fW.1 hb with hb|hb
  .exact (row s l).lt w hp.1 b hb
  .exact XX l hp.2 b hb
theorem XX {w:World}:∀(l:List Rt),Ps w l->∀b∈gK l,b<w.heap.size
 |[],_,b,hb=>by unfold gK at hb;cases hb
 |t::l,hp,b,hb=>by
  unfold gK at hb
  unfold Ps at hp
  rcases fW.1 hb with hb|hb
  .exact lt t hp.1 b hb
  .exact XX l hp.2 b hb
end
theorem P.oR {w w':World} {t:Rt} (h:P w t) (f:bI w w'):P w' t:=gV t (λb _ hl=>f.gV b hl id) h
theorem Ps.oR {w w':World} {l:List Rt} (h:Ps w l) (f:bI w w'):Ps w' l:=keeps l (λb _ hl=>f.gV b hl id) h
theorem Ps.get {w:World}:∀{l:List Rt},Ps w l->∀{i:Nat} {t:Rt},l[i]? =some t->P w t
 |[],_,i,t,h=>by simp at h
 |a::l,hp,0,t,h=>by
  unfold Ps at hp
  simp at h;subst h;exact hp.1
 |a::l,hp,i+1,t,h=>by
  unfold Ps at hp
  exact Ps.get hp.2 (by simpa using h)
theorem Ps.mem {w:World} {l:List Rt} (h:Ps w l) {t:Rt} (ht:t∈l):P w t:=by
 obtain ⟨i,hi⟩:=List.mem_iff_getElem?.1 ht
 exact h.get hi
theorem oq {w:World}:∀{l:List Rt},(∀t∈l,P w t)->Ps w l
 |[],_=>by unfold Ps;trivial
 |t::l,h=>by
  unfold Ps
  exact ⟨h t (by simp),oq λt' ht=>h t' (by simp [ht])⟩
theorem bD:∀{l:List Rt} {b:Nat},b∈gK l↔∃t∈l,b∈t.fp
 |[],b=>by unfold gK;simp
 |t::l,b=>by
  unfold gK
  rw [fW,bD]
  simp
theorem dM:∀{l:List Rt} {t:Rt},t∈l->t.sz<=fK l
 |a::l,t,h=>by
  unfold fK
  rcases List.mem_cons.1 h with rfl|h
  .omega
  .have:=dM h;omega
theorem oP (t:Rt):1<=t.sz:=by cases t;unfold sz;omega
theorem eZ:∀l:List Rt,l.length<=fK l
 |[]=>by simp
 |t::l=>by
  have:=eZ l
  have:=oP t
  unfold fK
  simp only [List.length_cons]
  omega
theorem P.parts {w:World} {t:Rt} (h:P w t):jO 4 w t.s (t.l.flatMap c)/\Ps w t.l:=by cases t;unfold P at h;exact h
theorem eJ {t:Rt} {b:Nat}:b∈t.fp↔b∈(row t.s t.l).fp\/b∈gK t.l:=by cases t;unfold fp;exact fW
theorem gm (t:Rt):t.sz=1+fK t.l:=by cases t;rfl
theorem dC (t:Rt):t.rx=.mk t.k t.lo t.hi (bU t.l):=by cases t;rfl
structure oQ (w:World) (p:Addr) (i:Nat) (t:Rt):Prop where
 c0:w.cell? ((p.add (i *4)).add 0)=some (.int .i64 t.k)
 c1:w.cell? ((p.add (i *4)).add 1)=some (.int .u8 (t.lo.toNat:Int))
 c2:w.cell? ((p.add (i *4)).add 2)=some (.int .u8 (t.hi.toNat:Int))
 c3:w.cell? ((p.add (i *4)).add 3)=some t.s.v
theorem at' {w:World} {s:Sl} {l:List Rt} (h:jO 4 w s (l.flatMap c)) {i:Nat} {t:Rt} (hi:l[i]? =some t) {K:Addr->Prop} (hk:∀p,s.a=some p->oQ w p i t->K p):aX s.a K:=
 oz.elem (f:=c) (sz:=4) xd (by omega) h.2.2 hi λp hp hc=>hk p hp ⟨hc 0 _ rfl,hc 1 _ rfl,hc 2 _ rfl,hc 3 _ rfl⟩
theorem again {w:World} {s:Sl} {l:List Rt} (h:jO 4 w s (l.flatMap c)) {i:Nat} {t:Rt} (hi:l[i]? =some t) {p:Addr} (hp:s.a=some p):oQ w p i t:=by
 have hk:=at' h hi (K:=λq=>∃q',s.a=some q'/\oQ w q' i t) (λq hq hc=>⟨q,hq,hc⟩)
 rw [hp] at hk
 obtain ⟨q,hq,d⟩:=hk
 cases hq
 exact d
end Rt
def _root_.Go.W.En.tree (t:Rt):En:=⟨Is t.fp,λw=>t.P w,λw w' h hp=>Rt.gV t (λb hb=>h b (aI.2 hb)) hp,λw hp b hb=>Rt.lt t hp b (aI.1 hb),mU _⟩
def _root_.Go.W.En.trees (l:List Rt):En:=⟨Is (Rt.gK l),λw=>Rt.Ps w l,λw w' h hp=>Rt.keeps l (λb hb=>h b (aI.2 hb)) hp,λw hp b hb=>Rt.XX l hp b (aI.1 hb),mU _⟩
namespace Rx
def k:Rx->Int|.mk k _ _ _=>k
def lo:Rx->UInt8|.mk _ lo _ _=>lo
def hi:Rx->UInt8|.mk _ _ hi _=>hi
def l:Rx->List Rx|.mk _ _ _ l=>l
mutual
def sz:Rx->Nat|.mk _ _ _ l=>1+fK l
def fK:List Rx->Nat
 |[]=>0
 |t::l=>t.sz+fK l
end
end Rx
mutual
theorem Rt.g9:∀t:Rt,t.rx.sz=t.sz
 |.mk k lo hi s l=>by unfold Rt.rx Rx.sz Rt.sz;rw [Rt.zt l]
theorem Rt.zt:∀l:List Rt,Rx.fK (Rt.bU l)=Rt.fK l
 |[]=>rfl
 |t::l=>by unfold Rt.bU Rx.fK Rt.fK;rw [Rt.g9 t,Rt.zt l]
end
end Go.Proofs.YtcifihepfadgfaaGreatDoor
