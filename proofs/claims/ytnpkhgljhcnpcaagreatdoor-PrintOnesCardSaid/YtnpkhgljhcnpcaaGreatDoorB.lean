import Derived.Test.YtnpkhgljhcnpcaaGreatDoorV
import Derived.Test.YtnpkhgljhcnpcaaGreatDoorW
import Derived.Lib.AppendStr
import Derived.Laws.IdiomStrings
import Derived.IntWalk
set_option linter.unusedVariables false
set_option linter.defProp false
namespace Go.Proofs.YtnpkhgljhcnpcaaGreatDoor
open Go renaming World->aA,Value->aD,TypeId->aP
open Go.IntKind renaming wrap->aC
open Go.IntWalk renaming i64_in->aS
open Go.Proofs.Tryz renaming prog->aB
open Go.Ending renaming returned->aJ
open List renaming mem_append->gg,getElem?_eq_getElem->ie
open Go Go.W Go.RowKit Go.Lib
def iX:jb aB bB bS (.int .u8 0) 1 1:=⟨by kernel_rfl,by kernel_rfl,rfl,by decide,by decide⟩
def vR:jb aB jj cT (.int .i64 0) 1 8:=⟨by kernel_rfl,by kernel_rfl,rfl,by decide,by decide⟩
abbrev Bytes (w:aA) (s:Sl) (bs:List UInt8):Prop:=Rd w s (bs.map hV)
abbrev mH (w:aA) (s:Sl) (bs:List UInt8):Prop:=Ow w bS s (bs.map hV)
abbrev hU (w:aA) (s:Sl) (l:List Int):Prop:=Rd w s (l.map l4)
def Bytes.len {w:aA} {s:Sl} {bs:List UInt8} (h:Bytes w s bs):s.n=bs.length:=by simpa using h.1
def hU.len {w:aA} {s:Sl} {bs:List Int} (h:hU w s bs):s.n=bs.length:=by simpa using h.1
def Bytes.cell {w:aA} {s:Sl} {bs:List UInt8} (h:Bytes w s bs) {i j:Nat} {b:UInt8} (hi:bs[i]? =some b) (hj:j=i *1) {K:Addr->Prop} (hk:∀p,s.a=some p->w.cell? (p.add j)=some (.int .u8 (b.toNat:Int))->K p):W.gT s.a K:=
 Rd.get h (i:=i) (v:=hV b) (by simp [hi]) hj hk
def hU.cell {w:aA} {s:Sl} {l:List Int} (h:hU w s l) {i j:Nat} {b:Int} (hi:l[i]? =some b) (hj:j=i *1) {K:Addr->Prop} (hk:∀p,s.a=some p->w.cell? (p.add j)=some (.int .i64 b)->K p):W.gT s.a K:=
 Rd.get h (i:=i) (v:=l4 b) (by simp [hi]) hj hk
def Bytes.sub {w:aA} {s:Sl} {bs:List UInt8} (h:Bytes w s bs) (l hi:Nat) (hl:l<=hi) (hh:hi<=bs.length):Bytes w (sub s l hi) ((bs.take hi).drop l):=by
 have:=Rd.sub h l hi hl (by simpa using hh)
 rwa [<-List.map_take,<-List.map_drop] at this
def hU.sub {w:aA} {s:Sl} {bs:List Int} (h:hU w s bs) (l hi:Nat) (hl:l<=hi) (hh:hi<=bs.length):hU w (sub s l hi) ((bs.take hi).drop l):=by
 have:=Rd.sub h l hi hl (by simpa using hh)
 rwa [<-List.map_take,<-List.map_drop] at this
def tC {ty:aP} {w:aA} {s src:Sl} {xs ys:List UInt8} (ho:mH w s xs) (hr:Bytes w src ys) (hb:xs.length+ys.length<=140737488355328):
  ∃s' w',(Builtin.append_ #[bB,bB] ty #[s.v,src.v]).run aB w=.ok s'.v w'/\mH w' s' (xs++ys)/\Fr (λb=>b∈bQ s) w w'/\(∀b∈bQ s',b∈bQ s\/w.heap.size<=b)/\(s'.a=none->s.a=none/\ys=[]):=by
 obtain ⟨s',w',g1,g2,g3,g4,g5⟩:=Nk (ty:=ty) iX ho hr (Np _) (by simpa using hb)
 exact ⟨s',w',g1,by unfold mH;rw [List.map_append];exact g2,g3,g4,λh=>⟨(g5 h).1,by simpa using (g5 h).2⟩⟩
def Y7 (w:aA) (T:aP) (cs:List aD) (h:cs.length<=1000000):Rd (w.alloc (.cells cs.toArray T)) ⟨some ⟨w.heap.size,0,none⟩,cs.length,cs.length⟩ cs:=(Ow.made w T cs _ rfl h).rd
def IG (w:aA) (b:UInt8):Bytes (w.alloc (.cells #[.int .u8 (b.toNat:Int)] bS)) ⟨some ⟨w.heap.size,0,none⟩,1,1⟩ [b]:=Y7 w bS [hV b] (by simp)
def bl (s:ByteArray):List UInt8:=s.data.toList
def ba (l:List UInt8):ByteArray:=⟨l.toArray⟩
def r7 (l:List UInt8):bl (ba l)=l:=rfl
def rA (s:ByteArray):ba (bl s)=s:=rfl
def iH (s:ByteArray):(bl s).length=s.size:=rfl
def cN (l:List UInt8):(ba l).size=l.length:=by simp [ba,ByteArray.size]
def Je (s:ByteArray):strCells s=(bl s).map hV:=by
 simp [strCells,bl,hV]
def yR:Tryz.prog.underlying cG=some .string:=by kernel_rfl
def SC:Tryz.prog.underlying bS=some (.int .u8):=by kernel_rfl
def Bf {ty:aP} {w:aA} {s:Sl} {xs:List UInt8} (ho:mH w s xs) (t:ByteArray) (hb:xs.length+t.size<=140737488355328):
  ∃s' w',(Builtin.append_ #[bB,cG] ty #[s.v,.string t]).run aB w=.ok s'.v w'/\mH w' s' (xs++bl t)/\Fr (λb=>b∈bQ s) w w'/\(∀b∈bQ s',b∈bQ s\/w.heap.size<=b):=by
 obtain ⟨i,hi,hz,ni,Ks⟩:=info_parts iX.hi
 have hn:s.n=xs.length:=by simpa using ho.1
 have main:∀base,base<=w.heap.size->w.ownsRow base bS 1 s.v s.n (xs.map hV)->∃v' w',(Builtin.append_ #[bB,cG] ty #[s.v,.string t]).run aB w=.ok v' w'/\w'.ownsRow base bS 1 v' (s.n+t.size) (xs.map hV++strCells t)/\w.grownBy w' s.v.ownBlock/\(v'=.slice none 0 0↔s.v=.slice none 0 0/\t.size=0):=
  λbase SR h0=>run_append_own_string (P:=aB) w base bB cG ty bS i iX.ht yR hi hz ni Ks s.v s.n (xs.map hV) h0 t (by unfold maxLen;omega) (by omega) SR
 obtain ⟨v',w',mE,DE,hgr,NV⟩:=main 0 (Nat.zero_le _) ho.2
 have hv:∃s':Sl,v'=s'.v/\s'.n=s.n+t.size:=by
  rcases DE.2 with ⟨h1,h2⟩|⟨g,cap,cur,h1,_⟩
  .exact ⟨⟨none,0,0⟩,h1,by show 0=_;omega⟩
  .exact ⟨⟨_,_,_⟩,h1,rfl⟩
 obtain ⟨s',rfl,zp⟩:=hv
 have El:Fr (λb=>b∈bQ s) w w':=by
  refine Fr.grown hgr λg hg=>?_
  rw [xy] at hg
  cases B1:s.a with
  |none=>simp [B1] at hg
  |some p=>simp [B1] at hg;simp [bQ,B1,hg]
 refine ⟨s',w',mE,⟨?_,?_⟩,El,?_⟩
 .rw [zp,hn];simp [iH]
 .have h2:=DE
  rw [Je,<-List.map_append] at h2
  unfold bD;rw [zp];exact h2
 .intro g hg
  rcases ho.2.cases with ⟨rfl,hx⟩|⟨g0,cur,Wp,hgg,hnc,hcm,Kt,Ta⟩
  .obtain ⟨v2,w2,Ic,Ib,_,_⟩:=main w.heap.size (Nat.le_refl _) (by rw [hx];exact World.ownsRow_nil w _ _ _)
   have e1:(Result.ok s'.v w':Result aD)=.ok v2 w2:=mE.symm.trans Ic
   have e2:=(Result.ok.inj e1).1
   subst e2
   rcases Ib.2 with ⟨h1,_⟩|⟨g2,aax,aaA,h1,h2,_⟩
   .have:s'.a=none:=(Value.slice.inj h1).1
    simp [bQ,this] at hg
   .have:s'.a=some ⟨g2,0,none⟩:=(Value.slice.inj h1).1
    simp [bQ,this] at hg
    exact .inr (hg▸h2)
  .obtain ⟨sa0,Ov,R1⟩:=s
   simp only at Wp hnc Kt Ta hn
   subst Wp
   by_cases B0:Ov+t.size<=R1
   .have FI:=run_append_room_string (P:=aB) w bB cG ty bS i iX.ht yR hi ni g0 Ov R1 cur hgg t B0 (by omega)
    have e1:=mE.symm.trans FI
    have:s'.a=some ⟨g0,0,none⟩:=(Value.slice.inj (Result.ok.inj e1).1).1
    simp [bQ,this] at hg ⊢
    exact .inl hg
   .have holds:∀j u,(xs.map hV)[j]? =some u->w.cell? ((⟨g0,0,none⟩:Addr).add j)=some u:=World.ownsRow.cells (g:=g0) ho.2 rfl
    have FI:=run_append_grow_string (P:=aB) w bB cG ty bS i (.int .u8 0) iX.ht yR hi hz ⟨g0,0,none⟩ Ov R1 (xs.map hV) (by rw [ni];simp;omega) holds t (by omega) (by omega) (growslice_fits (by omega) (by rw [Ks];omega))
    have e1:=mE.symm.trans FI
    have:s'.a=some ⟨w.heap.size,0,none⟩:=(Value.slice.inj (Result.ok.inj e1).1).1
    simp [bQ,this] at hg
    exact .inr (by omega)
def pT {w:aA} {s:Sl} {bs:List UInt8} (h:Bytes w s bs):(Go.convert bB cG s.v).run aB w=.ok (.string (ba bs)) w:=by
 obtain ⟨a,n,c⟩:=s
 have hn:=Bytes.len h
 simp only at hn
 subst hn
 cases a with
 |none=>
  obtain ⟨e1,e2⟩:=h.2.2.1 rfl
  simp only at e1 e2
  obtain rfl:bs=[]:=List.eq_nil_of_length_eq_zero e1
  rw [run_convert_bytes_string (P:=aB) w bB cG bS _ _ _ iX.ht SC yR]
  rfl
 |some p=>
  refine run_convert_bytes_back (P:=aB) w bB cG bS p c bs iX.ht SC yR λj hj=>?_
  obtain ⟨q,hq,hc⟩:=h.2.2.2 j (hV bs[j]) (by simp [ie hj])
  cases hq;exact hc
def Iu {t e:aP} {z:aD} {bytes:Nat} (el:jb aB t e z 1 bytes) (w:aA) (kl kc:IntKind) (n:Nat) (hb:n *bytes<=140737488355328):
  ∃w',(Instr.makeSlice t (.int kl 0) (.int kc (n:Int))).run aB w=.ok (.slice (some ⟨w.heap.size,0,none⟩) 0 n) w'/\Ow w' e ⟨some ⟨w.heap.size,0,none⟩,0,n⟩ []/\bW w w':=by
 obtain ⟨i,hi,hz,ni,Ks⟩:=info_parts el.hi
 have L8:n<=140737488355328:=by
  have:=Nat.le_mul_of_pos_right n el.hb
  omega
 obtain ⟨w',h1,h2,h3⟩:=run_make_own (P:=aB) w 0 t e i z 1 el.ht hi hz ni kl kc n (by rw [Ks,Nat.mul_comm];omega) (by unfold maxLen;omega) (Nat.zero_le _)
 exact ⟨w',h1,⟨rfl,h2⟩,Fr.grown h3 λ_ h=>by cases h⟩
def RS {w:aA} {s:Sl} {vs:List aD} (hn:s.n=vs.length) (hc:s.n<=s.c) (h0:s.a=none->s.c=0) (h:∀i v,vs[i]? =some v->∃p,s.a=some p/\w.cell? (p.add i)=some v):Rd w s vs:=
 ⟨hn,hc,λha=>⟨by have:=h0 ha;omega,h0 ha⟩,h⟩
def ArgNums (w:aA) (s:Sl):Prop:=∃l:List Int,hU w s l/\l.length<=9223372036854775807/\∀x∈l,-9223372036854775808<=x/\x<=9223372036854775807
def arg_nums_nil (w:aA):ArgNums w ⟨none,0,0⟩:=⟨[],Rd.nil w,by simp,by simp⟩
def arg_nums (w:aA) (x:Addr) (len cap:Nat) (zs:List Int) (hz:len<=zs.length) (hl:len<=cap) (hm:cap<=maxLen) (hc:∀i,i<zs.length->w.cell? (x.add i)=some (.int .i64 (zs.getD i 0))) (hw:∀n∈zs,IntKind.min .i64<=n/\n<=IntKind.max .i64):ArgNums w ⟨some x,len,cap⟩:=by
 refine ⟨zs.take len,RS (by simp;omega) hl (λh=>by cases h) (λi v hi=>?_),?_,λn hn=>hw n (List.mem_of_mem_take hn)⟩
 .rw [List.getElem?_map,List.getElem?_take] at hi
  split at hi
  .have jO:i<zs.length:=by omega
   refine ⟨x,rfl,?_⟩
   rw [hc i jO,List.getD_eq_getElem?_getD]
   rw [ie jO] at hi ⊢
   simpa [l4] using hi
  .simp at hi
 .have:len<=maxLen:=by omega
  unfold maxLen at this
  simp;omega
def Ph (w:aA) (bs:List UInt8):aT:=λr w'=>∃s:Sl,r=aJ s.v/\mH w' s bs/\bW w w'/\∀b∈bQ s,w.heap.size<=b
open Go Go.W
def gX (n m:Int):Int:=if n<0 then Int.tmod (0 - (n+1)) m else Int.tmod n m
def fC (n m:Int) (hm:1<=m):0<=gX n m/\gX n m<m:=by
 unfold gX
 split
 .exact ⟨Int.tmod_nonneg _ (by omega),Int.tmod_lt_of_pos _ (by omega)⟩
 .exact ⟨Int.tmod_nonneg _ (by omega),Int.tmod_lt_of_pos _ (by omega)⟩
abbrev qS (n:Int):Prop:=-9223372036854775808<=n/\n<=9223372036854775807
def Bg (n m:Int) (w:aA) (hm:1<=m) (h:qS n):
  Calls aB bN #[.int .i64 n,.int .i64 m] w λr w'=>r=aJ (.int .i64 (gX n m))/\w=w':=by
 obtain ⟨h1,h2⟩:=h
 refine enthymemeref01_Around.ok n m w _ ?_
 refine bR (λh=>?_) (λh=>?_)
 .have h':n<0:=by simpa using h
  refine ⟨by omega,?_,rfl⟩
  rw [show aC .i64 (n+1)=n+1 from aS _ (by omega),show aC .i64 (0 - (n+1))=0 - (n+1) from aS _ (by omega)]
  unfold gX;rw [aN h']
 .have h':¬n<0:=by simpa using h
  refine ⟨by omega,?_,rfl⟩
  unfold gX;rw [aI h']
def Oq {w:aA} {s t:Sl} {a b:List Int} (ha:hU w s a) (hb:hU w t b) (hl:a.length<=1000000000000):
  Calls aB jM #[s.v,t.v] w λr w'=>r=aJ (.bool (decide (a=b)))/\bW w w':=by
 have hn:=hU.len ha
 have hm:=hU.len hb
 refine enthymemeref01_SameInts.ok s t w _ ?_
 refine bR (λh=>?_) (λh=>?_)
 .refine ⟨?_,Fr.refl _ _⟩
  have:a≠b:=λe=>by subst e;rw [hn,hm] at h;simp at h
  simp [this]
 .have hlen:a.length=b.length:=by rw [hn,hm] at h;simp at h;omega
  have main:∀(n i:Nat),i+n=a.length->a.take i=b.take i->∀w',bW w w'->enthymemeref01_SameInts.L0 s t (i:Int) w' λr w'=>r=aJ (.bool (decide (a=b)))/\bW w w':=by
   intro n
   induction n with
   |zero=>
    intro i hi he w' hf
    refine enthymemeref01_SameInts.dE _ _ _ _ _ ?_
    refine aX (by rw [hn];simp;omega) ⟨?_,hf⟩
    rw [List.take_of_length_le (by omega),List.take_of_length_le (by omega)] at he
    simp [he]
   |succ n ih=>
    intro i hi he w' hf
    have hia:a[i]? =some a[i]:=ie (by omega)
    have hib:b[i]? =some b[i]:=ie (by omega)
    refine enthymemeref01_SameInts.dE _ _ _ _ _ ?_
    have fd:bW w w'.drew:=hf.Az (Fr.drew _ _)
    refine bF (by rw [hn];simp;omega) ⟨by omega,by rw [hn];omega,hU.cell (ha.qx fd) hia (by simp) λp _ hp=>⟨_,hp,by omega,by rw [hm];omega,hU.cell (hb.qx fd) hib (by simp) λq _ hq=>⟨_,hq,bR (λh=>?_) (λh=>?_)⟩⟩⟩
    .refine ⟨?_,fd⟩
     have:a≠b:=λe=>by subst e;simp at h
     simp [this]
    .show enthymemeref01_SameInts.L0 s t (aC .i64 ((i:Int)+1)) _ _
     rw [show aC .i64 ((i:Int)+1)=((i+1:Nat):Int) from by rw [aS _ (by omega)];omega]
     refine ih (i+1) (by omega) ?_ _ fd
     have e:a[i]=b[i]:=by
      simpa using h
     rw [List.take_add_one,List.take_add_one,hia,hib,he,e]
  exact main a.length 0 (by omega) (by simp) w (Fr.refl _ _)
def og {w:aA} (D:List En) (h:∀e∈D,e.P w):LH F0 w w [] D:=LH.start D h
inductive Rx where
 |mk (k:Int) (lo hi:UInt8) (l:List Rx)
inductive Rt where
 |mk (k:Int) (lo hi:UInt8) (s:Sl) (l:List Rt)
namespace Rt
def k:Rt->Int|.mk k _ _ _ _=>k
def lo:Rt->UInt8|.mk _ lo _ _ _=>lo
def hi:Rt->UInt8|.mk _ _ hi _ _=>hi
def s:Rt->Sl|.mk _ _ _ s _=>s
def l:Rt->List Rt|.mk _ _ _ _ l=>l
mutual
def rx:Rt->Rx|.mk k lo hi _ l=>.mk k lo hi (cR l)
def cR:List Rt->List Rx
 |[]=>[]
 |t::l=>t.rx::cR l
end
mutual
def sz:Rt->Nat|.mk _ _ _ _ l=>1+gF l
def gF:List Rt->Nat
 |[]=>0
 |t::l=>t.sz+gF l
end
def c (t:Rt):List aD:=[.int .i64 t.k,.int .u8 (t.lo.toNat:Int),.int .u8 (t.hi.toNat:Int),t.s.v]
abbrev v (t:Rt):aD:=.agg #[.int .i64 t.k,.int .u8 (t.lo.toNat:Int),.int .u8 (t.hi.toNat:Int),t.s.v]
abbrev row (s:Sl) (l:List Rt):En:=.jG 4 s (l.flatMap c)
mutual
def P (w:aA):Rt->Prop|.mk _ _ _ s l=>lN 4 w s (l.flatMap c)/\Ps w l
def Ps (w:aA):List Rt->Prop
 |[]=>True
 |t::l=>P w t/\Ps w l
end
mutual
def fp:Rt->List Nat|.mk _ _ _ s l=>(row s l).fp++iD l
def iD:List Rt->List Nat
 |[]=>[]
 |t::l=>fp t++iD l
end
def Br (t:Rt):(c t).length=4:=rfl
def kz (l:List Rt):(l.flatMap c).length=l.length *4:=qo c 4 Br l
def cX {w:aA} {s:Sl} {l:List Rt} (h:lN 4 w s (l.flatMap c)):s.n=l.length:=by
 have:=h.1
 rw [kz] at this
 omega
def fX:∀l:List Rt,cR l=l.map rx
 |[]=>rfl
 |t::l=>by unfold cR;rw [fX l];rfl
mutual
def ic {w w':aA}:∀(t:Rt),(∀b∈t.fp,b<w.heap.size->w'.heap[b]? =w.heap[b]?)->P w t->P w' t
 |.mk k lo hi s l,h,hp=>by
  unfold fp at h
  unfold P at hp ⊢
  exact ⟨(row s l).st w w' (λb hb=>h b (List.mem_append_left _ hb)) hp.1,keeps l (λb hb=>h b (List.mem_append_right _ hb)) hp.2⟩
def keeps {w w':aA}:∀(l:List Rt),(∀b∈iD l,b<w.heap.size->w'.heap[b]? =w.heap[b]?)->Ps w l->Ps w' l
 |[],_,_=>by unfold Ps;trivial
 |t::l,h,hp=>by
  unfold iD at h
  unfold Ps at hp ⊢
  exact ⟨ic t (λb hb=>h b (List.mem_append_left _ hb)) hp.1,keeps l (λb hb=>h b (List.mem_append_right _ hb)) hp.2⟩
end
mutual
def lt {w:aA}:∀(t:Rt),P w t->∀b∈t.fp,b<w.heap.size
 |.mk k lo hi s l,hp,b,hb=>by
  unfold fp at hb
  unfold P at hp
  rcases gg.1 hb with hb|hb
  .exact (row s l).lt w hp.1 b hb
  .exact lts l hp.2 b hb
def lts {w:aA}:∀(l:List Rt),Ps w l->∀b∈iD l,b<w.heap.size
 |[],_,b,hb=>by unfold iD at hb;cases hb
 |t::l,hp,b,hb=>by
  unfold iD at hb
  unfold Ps at hp
  rcases gg.1 hb with hb|hb
  .exact lt t hp.1 b hb
  .exact lts l hp.2 b hb
end
def P.qx {w w':aA} {t:Rt} (h:P w t) (f:bW w w'):P w' t:=ic t (λb _ hl=>f.ic b hl id) h
def Ps.qx {w w':aA} {l:List Rt} (h:Ps w l) (f:bW w w'):Ps w' l:=keeps l (λb _ hl=>f.ic b hl id) h
def Ps.get {w:aA}:∀{l:List Rt},Ps w l->∀{i:Nat} {t:Rt},l[i]? =some t->P w t
 |[],_,i,t,h=>by simp at h
 |a::l,hp,0,t,h=>by
  unfold Ps at hp
  simp at h;subst h;exact hp.1
 |a::l,hp,i+1,t,h=>by
  unfold Ps at hp
  exact Ps.get hp.2 (by simpa using h)
def Ps.mem {w:aA} {l:List Rt} (h:Ps w l) {t:Rt} (ht:t∈l):P w t:=by
 obtain ⟨i,hi⟩:=List.mem_iff_getElem?.1 ht
 exact h.get hi
def qu {w:aA}:∀{l:List Rt},(∀t∈l,P w t)->Ps w l
 |[],_=>by unfold Ps;trivial
 |t::l,h=>by
  unfold Ps
  exact ⟨h t (by simp),qu λt' ht=>h t' (by simp [ht])⟩
def bU:∀{l:List Rt} {b:Nat},b∈iD l↔∃t∈l,b∈t.fp
 |[],b=>by unfold iD;simp
 |t::l,b=>by
  unfold iD
  rw [gg,bU]
  simp
def eM:∀{l:List Rt} {t:Rt},t∈l->t.sz<=gF l
 |a::l,t,h=>by
  unfold gF
  rcases List.mem_cons.1 h with rfl|h
  .omega
  .have:=eM h;omega
def nZ (t:Rt):1<=t.sz:=by cases t;unfold sz;omega
def gj:∀l:List Rt,l.length<=gF l
 |[]=>by simp
 |t::l=>by
  have:=gj l
  have:=nZ t
  unfold gF
  simp only [List.length_cons]
  omega
def P.parts {w:aA} {t:Rt} (h:P w t):lN 4 w t.s (t.l.flatMap c)/\Ps w t.l:=by cases t;unfold P at h;exact h
def fJ {t:Rt} {b:Nat}:b∈t.fp↔b∈(row t.s t.l).fp\/b∈iD t.l:=by cases t;unfold fp;exact gg
def hM (t:Rt):t.sz=1+gF t.l:=by cases t;rfl
def eE (t:Rt):t.rx=.mk t.k t.lo t.hi (cR t.l):=by cases t;rfl
structure qM (w:aA) (p:Addr) (i:Nat) (t:Rt):Prop where
 c0:w.cell? ((p.add (i *4)).add 0)=some (.int .i64 t.k)
 c1:w.cell? ((p.add (i *4)).add 1)=some (.int .u8 (t.lo.toNat:Int))
 c2:w.cell? ((p.add (i *4)).add 2)=some (.int .u8 (t.hi.toNat:Int))
 c3:w.cell? ((p.add (i *4)).add 3)=some t.s.v
def at' {w:aA} {s:Sl} {l:List Rt} (h:lN 4 w s (l.flatMap c)) {i:Nat} {t:Rt} (hi:l[i]? =some t) {K:Addr->Prop} (hk:∀p,s.a=some p->qM w p i t->K p):gT s.a K:=
 qR.elem (f:=c) (sz:=4) Br (by omega) h.2.2 hi λp hp hc=>hk p hp ⟨hc 0 _ rfl,hc 1 _ rfl,hc 2 _ rfl,hc 3 _ rfl⟩
def again {w:aA} {s:Sl} {l:List Rt} (h:lN 4 w s (l.flatMap c)) {i:Nat} {t:Rt} (hi:l[i]? =some t) {p:Addr} (hp:s.a=some p):qM w p i t:=by
 have hk:=at' h hi (K:=λq=>∃q',s.a=some q'/\qM w q' i t) (λq hq hc=>⟨q,hq,hc⟩)
 rw [hp] at hk
 obtain ⟨q,hq,d⟩:=hk
 cases hq
 exact d
end Rt
def _root_.Go.W.En.tree (t:Rt):En:=⟨JL t.fp,λw=>t.P w,λw w' h hp=>Rt.ic t (λb hb=>h b (aV.2 hb)) hp,λw hp b hb=>Rt.lt t hp b (aV.1 hb),kM _⟩
def _root_.Go.W.En.trees (l:List Rt):En:=⟨JL (Rt.iD l),λw=>Rt.Ps w l,λw w' h hp=>Rt.keeps l (λb hb=>h b (aV.2 hb)) hp,λw hp b hb=>Rt.lts l hp b (aV.1 hb),kM _⟩
namespace Rx
def k:Rx->Int|.mk k _ _ _=>k
def lo:Rx->UInt8|.mk _ lo _ _=>lo
def hi:Rx->UInt8|.mk _ _ hi _=>hi
def l:Rx->List Rx|.mk _ _ _ l=>l
mutual
def sz:Rx->Nat|.mk _ _ _ l=>1+gF l
def gF:List Rx->Nat
 |[]=>0
 |t::l=>t.sz+gF l
end
end Rx
mutual
def Rt.ja:∀t:Rt,t.rx.sz=t.sz
 |.mk k lo hi s l=>by unfold Rt.rx Rx.sz Rt.sz;rw [Rt.CB l]
def Rt.CB:∀l:List Rt,Rx.gF (Rt.cR l)=Rt.gF l
 |[]=>rfl
 |t::l=>by unfold Rt.cR Rx.gF Rt.gF;rw [Rt.ja t,Rt.CB l]
end
end Go.Proofs.YtnpkhgljhcnpcaaGreatDoor
