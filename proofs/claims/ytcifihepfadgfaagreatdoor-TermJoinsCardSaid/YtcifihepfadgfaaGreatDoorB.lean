import Derived.Test.YtcifihepfadgfaaGreatDoorV
import Derived.Test.YtcifihepfadgfaaGreatDoorW
import Derived.Lib.AppendStr
import Derived.Laws.IdiomStrings
import Derived.IntWalk
set_option linter.unusedVariables false
namespace Go.Proofs.YtcifihepfadgfaaGreatDoor
open List renaming mem_append->fS,getElem?_eq_getElem->g8
open Go Go.W Go.RowKit Go.Lib
theorem ql:iy Tryz.prog bJ dF (.int .u8 0) 1 1:=⟨by kernel_rfl,by kernel_rfl,rfl,by decide,by decide⟩
theorem pR:iy Tryz.prog dK bP (.int .i64 0) 1 8:=⟨by kernel_rfl,by kernel_rfl,rfl,by decide,by decide⟩
abbrev Bytes (w:World) (s:Sl) (bs:List UInt8):Prop:=Rd w s (bs.map oR)
abbrev ox (w:World) (s:Sl) (bs:List UInt8):Prop:=Ow w dF s (bs.map oR)
abbrev cX (w:World) (s:Sl) (l:List Int):Prop:=Rd w s (l.map eI)
theorem Bytes.len {w:World} {s:Sl} {bs:List UInt8} (h:Bytes w s bs):s.n=bs.length:=by simpa using h.1
theorem cX.len {w:World} {s:Sl} {bs:List Int} (h:cX w s bs):s.n=bs.length:=by simpa using h.1
theorem Bytes.cell {w:World} {s:Sl} {bs:List UInt8} (h:Bytes w s bs) {i j:Nat} {b:UInt8} (hi:bs[i]? =some b) (hj:j=i *1) {K:Addr->Prop} (hk:∀p,s.a=some p->w.cell? (p.add j)=some (.int .u8 (b.toNat:Int))->K p):W.aW s.a K:=
 Rd.get h (i:=i) (v:=oR b) (by simp [hi]) hj hk
theorem cX.cell {w:World} {s:Sl} {l:List Int} (h:cX w s l) {i j:Nat} {b:Int} (hi:l[i]? =some b) (hj:j=i *1) {K:Addr->Prop} (hk:∀p,s.a=some p->w.cell? (p.add j)=some (.int .i64 b)->K p):W.aW s.a K:=
 Rd.get h (i:=i) (v:=eI b) (by simp [hi]) hj hk
theorem Bytes.sub {w:World} {s:Sl} {bs:List UInt8} (h:Bytes w s bs) (l hi:Nat) (hl:l<=hi) (hh:hi<=bs.length):Bytes w (sub s l hi) ((bs.take hi).drop l):=by
 have:=Rd.sub h l hi hl (by simpa using hh)
 rwa [<-List.map_take,<-List.map_drop] at this
theorem cX.sub {w:World} {s:Sl} {bs:List Int} (h:cX w s bs) (l hi:Nat) (hl:l<=hi) (hh:hi<=bs.length):cX w (sub s l hi) ((bs.take hi).drop l):=by
 have:=Rd.sub h l hi hl (by simpa using hh)
 rwa [<-List.map_take,<-List.map_drop] at this
theorem vE {ty:TypeId} {w:World} {s src:Sl} {xs ys:List UInt8} (ho:ox w s xs) (hr:Bytes w src ys) (hb:xs.length+ys.length<=140737488355328):
  ∃s' w',(Builtin.append_ #[bJ,bJ] ty #[s.v,src.v]).run Tryz.prog w=.ok s'.v w'/\ox w' s' (xs++ys)/\Fr (λb=>b∈aZ s) w w'/\(∀b∈aZ s',b∈aZ s\/w.heap.size<=b)/\(s'.a=none->s.a=none/\ys=[]):=by
 obtain ⟨s',w',g1,g2,g3,g4,g5⟩:=Kd (ty:=ty) ql ho hr (Kg _) (by simpa using hb)
 exact ⟨s',w',g1,by unfold ox;rw [List.map_append];exact g2,g3,g4,λh=>⟨(g5 h).1,by simpa using (g5 h).2⟩⟩
theorem Vl (w:World) (T:TypeId) (cs:List Value) (h:cs.length<=1000000):Rd (w.alloc (.cells cs.toArray T)) ⟨some ⟨w.heap.size,0,none⟩,cs.length,cs.length⟩ cs:=(Ow.made w T cs _ rfl h).rd
theorem NY (w:World) (b:UInt8):Bytes (w.alloc (.cells #[.int .u8 (b.toNat:Int)] dF)) ⟨some ⟨w.heap.size,0,none⟩,1,1⟩ [b]:=Vl w dF [oR b] (by simp)
def bl (s:ByteArray):List UInt8:=s.data.toList
def ba (l:List UInt8):ByteArray:=⟨l.toArray⟩
theorem zd (l:List UInt8):bl (ba l)=l:=rfl
theorem Bw (s:ByteArray):ba (bl s)=s:=rfl
theorem iS (s:ByteArray):(bl s).length=s.size:=rfl
theorem cD (l:List UInt8):(ba l).size=l.length:=by simp [ba,ByteArray.size]
theorem Gb (s:ByteArray):strCells s=(bl s).map oR:=by
 simp [strCells,bl,oR]
theorem wJ:Tryz.prog.underlying cJ=some .string:=by kernel_rfl
theorem OP:Tryz.prog.underlying dF=some (.int .u8):=by kernel_rfl
theorem G7 {ty:TypeId} {w:World} {s:Sl} {xs:List UInt8} (ho:ox w s xs) (t:ByteArray) (hb:xs.length+t.size<=140737488355328):
  ∃s' w',(Builtin.append_ #[bJ,cJ] ty #[s.v,.string t]).run Tryz.prog w=.ok s'.v w'/\ox w' s' (xs++bl t)/\Fr (λb=>b∈aZ s) w w'/\(∀b∈aZ s',b∈aZ s\/w.heap.size<=b):=by
 obtain ⟨i,hi,hz,mH,Je⟩:=info_parts ql.hi
 have hn:s.n=xs.length:=by simpa using ho.1
 have main:∀base,base<=w.heap.size->w.ownsRow base dF 1 s.v s.n (xs.map oR)->∃v' w',(Builtin.append_ #[bJ,cJ] ty #[s.v,.string t]).run Tryz.prog w=.ok v' w'/\w'.ownsRow base dF 1 v' (s.n+t.size) (xs.map oR++strCells t)/\w.grownBy w' s.v.ownBlock/\(v'=.slice none 0 0↔s.v=.slice none 0 0/\t.size=0):=
  λbase KE h0=>run_append_own_string (P:=Tryz.prog) w base bJ cJ ty dF i ql.ht wJ hi hz mH Je s.v s.n (xs.map oR) h0 t (by unfold maxLen;omega) (by omega) KE
 obtain ⟨v',w',l0,A9,Xv,KJ⟩:=main 0 (Nat.zero_le _) ho.2
 have hv:∃s':Sl,v'=s'.v/\s'.n=s.n+t.size:=by
  rcases A9.2 with ⟨h1,h2⟩|⟨g,cap,cur,h1,_⟩
  .exact ⟨⟨none,0,0⟩,h1,by show 0=_;omega⟩
  .exact ⟨⟨_,_,_⟩,h1,rfl⟩
 obtain ⟨s',rfl,xw⟩:=hv
 have BX:Fr (λb=>b∈aZ s) w w':=by
  refine Fr.grown Xv λg hg=>?_
  rw [vd] at hg
  cases Ba:s.a with
  |none=>simp [Ba] at hg
  |some p=>simp [Ba] at hg;simp [aZ,Ba,hg]
 refine ⟨s',w',l0,⟨?_,?_⟩,BX,?_⟩
 .rw [xw,hn];simp [iS]
 .have h2:=A9
  rw [Gb,<-List.map_append] at h2
  unfold aO;rw [xw];exact h2
 .intro g hg
  rcases ho.2.cases with ⟨rfl,hx⟩|⟨g0,cur,Sr,Xu,XE,Y1,HD,O3⟩
  .obtain ⟨v2,w2,E2,E0,_,_⟩:=main w.heap.size (Nat.le_refl _) (by rw [hx];exact World.ownsRow_nil w _ _ _)
   have e1:(Result.ok s'.v w':Result Value)=.ok v2 w2:=l0.symm.trans E2
   have e2:=(Result.ok.inj e1).1
   subst e2
   rcases E0.2 with ⟨h1,_⟩|⟨g2,WY,W3,h1,h2,_⟩
   .have:s'.a=none:=(Value.slice.inj h1).1
    simp [aZ,this] at hg
   .have:s'.a=some ⟨g2,0,none⟩:=(Value.slice.inj h1).1
    simp [aZ,this] at hg
    exact .inr (hg▸h2)
  .obtain ⟨sa0,Li,Oj⟩:=s
   simp only at Sr XE HD O3 hn
   subst Sr
   by_cases zK:Li+t.size<=Oj
   .have Dl:=run_append_room_string (P:=Tryz.prog) w bJ cJ ty dF i ql.ht wJ hi mH g0 Li Oj cur Xu t zK (by omega)
    have e1:=l0.symm.trans Dl
    have:s'.a=some ⟨g0,0,none⟩:=(Value.slice.inj (Result.ok.inj e1).1).1
    simp [aZ,this] at hg ⊢
    exact .inl hg
   .have holds:∀j u,(xs.map oR)[j]? =some u->w.cell? ((⟨g0,0,none⟩:Addr).add j)=some u:=World.ownsRow.cells (g:=g0) ho.2 rfl
    have Dl:=run_append_grow_string (P:=Tryz.prog) w bJ cJ ty dF i (.int .u8 0) ql.ht wJ hi hz ⟨g0,0,none⟩ Li Oj (xs.map oR) (by rw [mH];simp;omega) holds t (by omega) (by omega) (growslice_fits (by omega) (by rw [Je];omega))
    have e1:=l0.symm.trans Dl
    have:s'.a=some ⟨w.heap.size,0,none⟩:=(Value.slice.inj (Result.ok.inj e1).1).1
    simp [aZ,this] at hg
    exact .inr (by omega)
theorem rh {w:World} {s:Sl} {bs:List UInt8} (h:Bytes w s bs):(Go.convert bJ cJ s.v).run Tryz.prog w=.ok (.string (ba bs)) w:=by
 obtain ⟨a,n,c⟩:=s
 have hn:=Bytes.len h
 simp only at hn
 subst hn
 cases a with
 |none=>
  obtain ⟨e1,e2⟩:=h.2.2.1 rfl
  simp only at e1 e2
  obtain rfl:bs=[]:=List.eq_nil_of_length_eq_zero e1
  rw [run_convert_bytes_string (P:=Tryz.prog) w bJ cJ dF _ _ _ ql.ht OP wJ]
  rfl
 |some p=>
  refine run_convert_bytes_back (P:=Tryz.prog) w bJ cJ dF p c bs ql.ht OP wJ λj hj=>?_
  obtain ⟨q,hq,hc⟩:=h.2.2.2 j (oR bs[j]) (by simp [g8 hj])
  cases hq;exact hc
theorem Oa {w:World} {s:Sl} {vs:List Value} (hn:s.n=vs.length) (hc:s.n<=s.c) (h0:s.a=none->s.c=0) (h:∀i v,vs[i]? =some v->∃p,s.a=some p/\w.cell? (p.add i)=some v):Rd w s vs:=
 ⟨hn,hc,λha=>⟨by have:=h0 ha;omega,h0 ha⟩,h⟩
def ArgNums (w:World) (s:Sl):Prop:=∃l:List Int,cX w s l/\l.length<=9223372036854775807/\∀x∈l,-9223372036854775808<=x/\x<=9223372036854775807
theorem arg_nums_nil (w:World):ArgNums w ⟨none,0,0⟩:=⟨[],Rd.nil w,by simp,by simp⟩
theorem arg_nums (w:World) (x:Addr) (len cap:Nat) (zs:List Int) (hz:len<=zs.length) (hl:len<=cap) (hm:cap<=maxLen) (hc:∀i,i<zs.length->w.cell? (x.add i)=some (.int .i64 (zs.getD i 0))) (hw:∀n∈zs,IntKind.min .i64<=n/\n<=IntKind.max .i64):ArgNums w ⟨some x,len,cap⟩:=by
 refine ⟨zs.take len,Oa (by simp;omega) hl (λh=>by cases h) (λi v hi=>?_),?_,λn hn=>hw n (List.mem_of_mem_take hn)⟩
 .rw [List.getElem?_map,List.getElem?_take] at hi
  split at hi
  .have lV:i<zs.length:=by omega
   refine ⟨x,rfl,?_⟩
   rw [hc i lV,List.getD_eq_getElem?_getD]
   rw [g8 lV] at hi ⊢
   simpa [eI] using hi
  .simp at hi
 .have:len<=maxLen:=by omega
  unfold maxLen at this
  simp;omega
def L7 (w:World) (bs:List UInt8):aD:=λr w'=>∃s:Sl,r=.returned s.v/\ox w' s bs/\bG w w'/\∀b∈aZ s,w.heap.size<=b
open Go Go.W
def dB (n m:Int):Int:=if n<0 then Int.tmod (0 - (n+1)) m else Int.tmod n m
theorem cH (n m:Int) (hm:1<=m):0<=dB n m/\dB n m<m:=by
 unfold dB
 split
 .exact ⟨Int.tmod_nonneg _ (by omega),Int.tmod_lt_of_pos _ (by omega)⟩
 .exact ⟨Int.tmod_nonneg _ (by omega),Int.tmod_lt_of_pos _ (by omega)⟩
abbrev oo (n:Int):Prop:=-9223372036854775808<=n/\n<=9223372036854775807
theorem y7 (n m:Int) (w:World) (hm:1<=m) (h:oo n):
  Calls Tryz.prog aR #[.int .i64 n,.int .i64 m] w λr w'=>r=.returned (.int .i64 (dB n m))/\w=w':=by
 obtain ⟨h1,h2⟩:=h
 refine enthymemeref01_Around.ok n m w _ ?_
 refine bA (λh=>?_) (λh=>?_)
 .have h':n<0:=by simpa using h
  refine ⟨by omega,?_,rfl⟩
  rw [show IntKind.wrap .i64 (n+1)=n+1 from IntWalk.i64_in _ (by omega),show IntKind.wrap .i64 (0 - (n+1))=0 - (n+1) from IntWalk.i64_in _ (by omega)]
  unfold dB;rw [if_pos h']
 .have h':¬n<0:=by simpa using h
  refine ⟨by omega,?_,rfl⟩
  unfold dB;rw [if_neg h']
theorem Cm {w:World} {s t:Sl} {a b:List Int} (ha:cX w s a) (hb:cX w t b) (hl:a.length<=1000000000000):
  Calls Tryz.prog gK #[s.v,t.v] w λr w'=>r=.returned (.bool (decide (a=b)))/\bG w w':=by
 have hn:=cX.len ha
 have hm:=cX.len hb
 refine enthymemeref01_SameInts.ok s t w _ ?_
 refine bA (λh=>?_) (λh=>?_)
 .refine ⟨?_,Fr.refl _ _⟩
  have:a≠b:=λe=>by subst e;rw [hn,hm] at h;simp at h
  simp [this]
 .have hlen:a.length=b.length:=by rw [hn,hm] at h;simp at h;omega
  have main:∀(n i:Nat),i+n=a.length->a.take i=b.take i->∀w',bG w w'->enthymemeref01_SameInts.L0 s t (i:Int) w' λr w'=>r=.returned (.bool (decide (a=b)))/\bG w w':=by
   intro n
   induction n with
   |zero=>
    intro i hi he w' hf
    refine enthymemeref01_SameInts.cC _ _ _ _ _ ?_
    refine aI (by rw [hn];simp;omega) ⟨?_,hf⟩
    rw [List.take_of_length_le (by omega),List.take_of_length_le (by omega)] at he
    simp [he]
   |succ n ih=>
    intro i hi he w' hf
    have hia:a[i]? =some a[i]:=g8 (by omega)
    have Wj:b[i]? =some b[i]:=g8 (by omega)
    refine enthymemeref01_SameInts.cC _ _ _ _ _ ?_
    have fd:bG w w'.drew:=hf.AV (Fr.drew _ _)
    refine aQ (by rw [hn];simp;omega) ⟨by omega,by rw [hn];omega,cX.cell (ha.pI fd) hia (by simp) λp _ hp=>⟨_,hp,by omega,by rw [hm];omega,cX.cell (hb.pI fd) Wj (by simp) λq _ hq=>⟨_,hq,bA (λh=>?_) (λh=>?_)⟩⟩⟩
    .refine ⟨?_,fd⟩
     have:a≠b:=λe=>by subst e;simp at h
     simp [this]
    .show enthymemeref01_SameInts.L0 s t (IntKind.wrap .i64 ((i:Int)+1)) _ _
     rw [show IntKind.wrap .i64 ((i:Int)+1)=((i+1:Nat):Int) from by rw [IntWalk.i64_in _ (by omega)];omega]
     refine ih (i+1) (by omega) ?_ _ fd
     have e:a[i]=b[i]:=by
      simpa using h
     rw [List.take_add_one,List.take_add_one,hia,Wj,he,e]
  exact main a.length 0 (by omega) (by simp) w (Fr.refl _ _)
theorem mu {w:World} (D:List En) (h:∀e∈D,e.P w):LH F0 w w [] D:=LH.start D h
inductive Rx where
 |mk (k:Int) (lo hi:UInt8) (l:List Rx)
inductive Rt where
 |mk (k:Int) (lo hi:UInt8) (s:Sl) (l:List Rt)
namespace Rt
def k:Rt->Int|.mk k _ _ _ _=>k
def lo:Rt->UInt8|.mk _ lo _ _ _=>lo
def hi:Rt->UInt8|.mk _ _ hi _ _=>hi
def s:Rt->Sl|.mk _ _ _ s _=>s
def l:Rt->List Rt|.mk _ _ _ _ l=>l
mutual
def rx:Rt->Rx|.mk k lo hi _ l=>.mk k lo hi (bV l)
def bV:List Rt->List Rx
 |[]=>[]
 |t::l=>t.rx::bV l
end
mutual
def sz:Rt->Nat|.mk _ _ _ _ l=>1+fQ l
def fQ:List Rt->Nat
 |[]=>0
 |t::l=>t.sz+fQ l
end
def c (t:Rt):List Value:=[.int .i64 t.k,.int .u8 (t.lo.toNat:Int),.int .u8 (t.hi.toNat:Int),t.s.v]
abbrev v (t:Rt):Value:=.agg #[.int .i64 t.k,.int .u8 (t.lo.toNat:Int),.int .u8 (t.hi.toNat:Int),t.s.v]
abbrev row (s:Sl) (l:List Rt):En:=.iD 4 s (l.flatMap c)
mutual
def P (w:World):Rt->Prop|.mk _ _ _ s l=>jU 4 w s (l.flatMap c)/\Ps w l
def Ps (w:World):List Rt->Prop
 |[]=>True
 |t::l=>P w t/\Ps w l
end
mutual
def fp:Rt->List Nat|.mk _ _ _ s l=>(row s l).fp++gV l
def gV:List Rt->List Nat
 |[]=>[]
 |t::l=>fp t++gV l
end
theorem yc (t:Rt):(c t).length=4:=rfl
theorem iT (l:List Rt):(l.flatMap c).length=l.length *4:=oS c 4 yc l
theorem b0 {w:World} {s:Sl} {l:List Rt} (h:jU 4 w s (l.flatMap c)):s.n=l.length:=by
 have:=h.1
 rw [iT] at this
 omega
theorem fC:∀l:List Rt,bV l=l.map rx
 |[]=>rfl
 |t::l=>by unfold bV;rw [fC l];rfl
mutual
theorem gY {w w':World}:∀(t:Rt),(∀b∈t.fp,b<w.heap.size->w'.heap[b]? =w.heap[b]?)->P w t->P w' t
 |.mk k lo hi s l,h,hp=>by
  unfold fp at h
  unfold P at hp ⊢
  exact ⟨(row s l).st w w' (λb hb=>h b (List.mem_append_left _ hb)) hp.1,keeps l (λb hb=>h b (List.mem_append_right _ hb)) hp.2⟩
theorem keeps {w w':World}:∀(l:List Rt),(∀b∈gV l,b<w.heap.size->w'.heap[b]? =w.heap[b]?)->Ps w l->Ps w' l
 |[],_,_=>by unfold Ps;trivial
 |t::l,h,hp=>by
  unfold gV at h
  unfold Ps at hp ⊢
  exact ⟨gY t (λb hb=>h b (List.mem_append_left _ hb)) hp.1,keeps l (λb hb=>h b (List.mem_append_right _ hb)) hp.2⟩
end
mutual
theorem lt {w:World}:∀(t:Rt),P w t->∀b∈t.fp,b<w.heap.size
 |.mk k lo hi s l,hp,b,hb=>by
  unfold fp at hb
  unfold P at hp
  rcases fS.1 hb with hb|hb
  .exact (row s l).lt w hp.1 b hb
  .exact Zi l hp.2 b hb
theorem Zi {w:World}:∀(l:List Rt),Ps w l->∀b∈gV l,b<w.heap.size
 |[],_,b,hb=>by unfold gV at hb;cases hb
 |t::l,hp,b,hb=>by
  unfold gV at hb
  unfold Ps at hp
  rcases fS.1 hb with hb|hb
  .exact lt t hp.1 b hb
  .exact Zi l hp.2 b hb
end
theorem P.pI {w w':World} {t:Rt} (h:P w t) (f:bG w w'):P w' t:=gY t (λb _ hl=>f.gY b hl id) h
theorem Ps.pI {w w':World} {l:List Rt} (h:Ps w l) (f:bG w w'):Ps w' l:=keeps l (λb _ hl=>f.gY b hl id) h
theorem Ps.get {w:World}:∀{l:List Rt},Ps w l->∀{i:Nat} {t:Rt},l[i]? =some t->P w t
 |[],_,i,t,h=>by simp at h
 |a::l,hp,0,t,h=>by
  unfold Ps at hp
  simp at h;subst h;exact hp.1
 |a::l,hp,i+1,t,h=>by
  unfold Ps at hp
  exact Ps.get hp.2 (by simpa using h)
theorem Ps.mem {w:World} {l:List Rt} (h:Ps w l) {t:Rt} (ht:t∈l):P w t:=by
 obtain ⟨i,hi⟩:=List.mem_iff_getElem?.1 ht
 exact h.get hi
theorem oX {w:World}:∀{l:List Rt},(∀t∈l,P w t)->Ps w l
 |[],_=>by unfold Ps;trivial
 |t::l,h=>by
  unfold Ps
  exact ⟨h t (by simp),oX λt' ht=>h t' (by simp [ht])⟩
theorem bC:∀{l:List Rt} {b:Nat},b∈gV l↔∃t∈l,b∈t.fp
 |[],b=>by unfold gV;simp
 |t::l,b=>by
  unfold gV
  rw [fS,bC]
  simp
theorem dQ:∀{l:List Rt} {t:Rt},t∈l->t.sz<=fQ l
 |a::l,t,h=>by
  unfold fQ
  rcases List.mem_cons.1 h with rfl|h
  .omega
  .have:=dQ h;omega
theorem pD (t:Rt):1<=t.sz:=by cases t;unfold sz;omega
theorem fG:∀l:List Rt,l.length<=fQ l
 |[]=>by simp
 |t::l=>by
  have:=fG l
  have:=pD t
  unfold fQ
  simp only [List.length_cons]
  omega
theorem P.parts {w:World} {t:Rt} (h:P w t):jU 4 w t.s (t.l.flatMap c)/\Ps w t.l:=by cases t;unfold P at h;exact h
theorem eO {t:Rt} {b:Nat}:b∈t.fp↔b∈(row t.s t.l).fp\/b∈gV t.l:=by cases t;unfold fp;exact fS
theorem gE (t:Rt):t.sz=1+fQ t.l:=by cases t;rfl
theorem dE (t:Rt):t.rx=.mk t.k t.lo t.hi (bV t.l):=by cases t;rfl
structure pG (w:World) (p:Addr) (i:Nat) (t:Rt):Prop where
 c0:w.cell? ((p.add (i *4)).add 0)=some (.int .i64 t.k)
 c1:w.cell? ((p.add (i *4)).add 1)=some (.int .u8 (t.lo.toNat:Int))
 c2:w.cell? ((p.add (i *4)).add 2)=some (.int .u8 (t.hi.toNat:Int))
 c3:w.cell? ((p.add (i *4)).add 3)=some t.s.v
theorem at' {w:World} {s:Sl} {l:List Rt} (h:jU 4 w s (l.flatMap c)) {i:Nat} {t:Rt} (hi:l[i]? =some t) {K:Addr->Prop} (hk:∀p,s.a=some p->pG w p i t->K p):aW s.a K:=
 o7.elem (f:=c) (sz:=4) yc (by omega) h.2.2 hi λp hp hc=>hk p hp ⟨hc 0 _ rfl,hc 1 _ rfl,hc 2 _ rfl,hc 3 _ rfl⟩
theorem again {w:World} {s:Sl} {l:List Rt} (h:jU 4 w s (l.flatMap c)) {i:Nat} {t:Rt} (hi:l[i]? =some t) {p:Addr} (hp:s.a=some p):pG w p i t:=by
 have hk:=at' h hi (K:=λq=>∃q',s.a=some q'/\pG w q' i t) (λq hq hc=>⟨q,hq,hc⟩)
 rw [hp] at hk
 obtain ⟨q,hq,d⟩:=hk
 cases hq
 exact d
end Rt
def _root_.Go.W.En.tree (t:Rt):En:=⟨Jy t.fp,λw=>t.P w,λw w' h hp=>Rt.gY t (λb hb=>h b (aH.2 hb)) hp,λw hp b hb=>Rt.lt t hp b (aH.1 hb),l8 _⟩
def _root_.Go.W.En.trees (l:List Rt):En:=⟨Jy (Rt.gV l),λw=>Rt.Ps w l,λw w' h hp=>Rt.keeps l (λb hb=>h b (aH.2 hb)) hp,λw hp b hb=>Rt.Zi l hp b (aH.1 hb),l8 _⟩
namespace Rx
def k:Rx->Int|.mk k _ _ _=>k
def lo:Rx->UInt8|.mk _ lo _ _=>lo
def hi:Rx->UInt8|.mk _ _ hi _=>hi
def l:Rx->List Rx|.mk _ _ _ l=>l
mutual
def sz:Rx->Nat|.mk _ _ _ l=>1+fQ l
def fQ:List Rx->Nat
 |[]=>0
 |t::l=>t.sz+fQ l
end
end Rx
mutual
theorem Rt.ib:∀t:Rt,t.rx.sz=t.sz
 |.mk k lo hi s l=>by unfold Rt.rx Rx.sz Rt.sz;rw [Rt.Ao l]
theorem Rt.Ao:∀l:List Rt,Rx.fQ (Rt.bV l)=Rt.fQ l
 |[]=>rfl
 |t::l=>by unfold Rt.bV Rx.fQ Rt.fQ;rw [Rt.ib t,Rt.Ao l]
end
end Go.Proofs.YtcifihepfadgfaaGreatDoor
