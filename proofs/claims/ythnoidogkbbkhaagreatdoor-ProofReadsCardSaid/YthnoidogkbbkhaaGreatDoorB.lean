import Derived.Test.YthnoidogkbbkhaaGreatDoorV
import Derived.Test.YthnoidogkbbkhaaGreatDoorW
import Derived.Lib.AppendStr
import Derived.Laws.IdiomStrings
import Derived.IntWalk
set_option linter.unusedVariables false
namespace Go.Proofs.YthnoidogkbbkhaaGreatDoor
open List renaming mem_append->qmA,getElem?_eq_getElem->qgE,take_add_one->qtO,take_of_length_le->qtOL
open Go Go.W Go.RowKit Go.Lib
theorem el_bytes:ElemOk Tryz.prog ty_sl_uint8 ty_uint8 (.int .u8 0) 1 1:=⟨by kernel_rfl,by kernel_rfl,rfl,by decide,by decide⟩
theorem el_ints:ElemOk Tryz.prog ty_sl_int ty_int (.int .i64 0) 1 8:=⟨by kernel_rfl,by kernel_rfl,rfl,by decide,by decide⟩
abbrev Bytes (w:World) (s:Sl) (bs:List UInt8):Prop:=Rd w s (bs.map byteV)
abbrev BytesO (w:World) (s:Sl) (bs:List UInt8):Prop:=Ow w ty_uint8 s (bs.map byteV)
abbrev Nums (w:World) (s:Sl) (l:List Int):Prop:=Rd w s (l.map intV)
theorem Bytes.len {w:World} {s:Sl} {bs:List UInt8} (h:Bytes w s bs):s.n=bs.length:=by simpa using h.1
theorem Nums.len {w:World} {s:Sl} {bs:List Int} (h:Nums w s bs):s.n=bs.length:=by simpa using h.1
theorem Bytes.cell {w:World} {s:Sl} {bs:List UInt8} (h:Bytes w s bs) {i j:Nat} {b:UInt8} (hi:bs[i]? =some b) (hj:j=i *1) {K:Addr->Prop} (hk:∀p,s.a=some p->w.cell? (p.add j)=some (.int .u8 (b.toNat:Int))->K p):W.optP s.a K:=
 Rd.get h (i:=i) (v:=byteV b) (by simp [hi]) hj hk
theorem Nums.cell {w:World} {s:Sl} {l:List Int} (h:Nums w s l) {i j:Nat} {b:Int} (hi:l[i]? =some b) (hj:j=i *1) {K:Addr->Prop} (hk:∀p,s.a=some p->w.cell? (p.add j)=some (.int .i64 b)->K p):W.optP s.a K:=
 Rd.get h (i:=i) (v:=intV b) (by simp [hi]) hj hk
theorem Bytes.sub {w:World} {s:Sl} {bs:List UInt8} (h:Bytes w s bs) (l hi:Nat) (hl:l<=hi) (hh:hi<=bs.length):Bytes w (sub s l hi) ((bs.take hi).drop l):=by
 have:=Rd.sub h l hi hl (by simpa using hh)
 rwa [<-List.map_take,<-List.map_drop] at this
theorem Nums.sub {w:World} {s:Sl} {bs:List Int} (h:Nums w s bs) (l hi:Nat) (hl:l<=hi) (hh:hi<=bs.length):Nums w (sub s l hi) ((bs.take hi).drop l):=by
 have:=Rd.sub h l hi hl (by simpa using hh)
 rwa [<-List.map_take,<-List.map_drop] at this
theorem append_bytes {ty:TypeId} {w:World} {s src:Sl} {xs ys:List UInt8} (ho:BytesO w s xs) (hr:Bytes w src ys) (hb:xs.length+ys.length<=140737488355328):
  ∃s' w',(Builtin.append_ #[ty_sl_uint8,ty_sl_uint8] ty #[s.v,src.v]).run Tryz.prog w=.ok s'.v w'/\BytesO w' s' (xs++ys)/\Fr (λb=>b∈blkL s) w w'/\(∀b∈blkL s',b∈blkL s\/w.heap.size<=b)/\(s'.a=none->s.a=none/\ys=[]):=by
 obtain ⟨s',w',g1,g2,g3,g4,g5⟩:=append_ow (ty:=ty) el_bytes ho hr (byteV_one _) (by simpa using hb)
 exact ⟨s',w',g1,by unfold BytesO;rw [List.map_append];exact g2,g3,g4,λh=>⟨(g5 h).1,by simpa using (g5 h).2⟩⟩
theorem one_rd (w:World) (T:TypeId) (cs:List Value) (h:cs.length<=1000000):Rd (w.alloc (.cells cs.toArray T)) ⟨some ⟨w.heap.size,0,none⟩,cs.length,cs.length⟩ cs:=(Ow.made w T cs _ rfl h).rd
theorem one_byte (w:World) (b:UInt8):Bytes (w.alloc (.cells #[.int .u8 (b.toNat:Int)] ty_uint8)) ⟨some ⟨w.heap.size,0,none⟩,1,1⟩ [b]:=one_rd w ty_uint8 [byteV b] (by simp)
def bl (s:ByteArray):List UInt8:=s.data.toList
def ba (l:List UInt8):ByteArray:=⟨l.toArray⟩
theorem bl_ba (l:List UInt8):bl (ba l)=l:=rfl
theorem ba_bl (s:ByteArray):ba (bl s)=s:=rfl
theorem bl_len (s:ByteArray):(bl s).length=s.size:=rfl
theorem ba_size (l:List UInt8):(ba l).size=l.length:=by simp [ba,ByteArray.size]
theorem strCells_bl (s:ByteArray):strCells s=(bl s).map byteV:=by
 simp [strCells,bl,byteV]
theorem str_und:Tryz.prog.underlying ty_string=some .string:=by kernel_rfl
theorem u8_und:Tryz.prog.underlying ty_uint8=some (.int .u8):=by kernel_rfl
theorem append_str {ty:TypeId} {w:World} {s:Sl} {xs:List UInt8} (ho:BytesO w s xs) (t:ByteArray) (hb:xs.length+t.size<=140737488355328):
  ∃s' w',(Builtin.append_ #[ty_sl_uint8,ty_string] ty #[s.v,.string t]).run Tryz.prog w=.ok s'.v w'/\BytesO w' s' (xs++bl t)/\Fr (λb=>b∈blkL s) w w'/\(∀b∈blkL s',b∈blkL s\/w.heap.size<=b):=by
 obtain ⟨i,hi,hz,hsz,hby⟩:=info_parts el_bytes.hi
 have hn:s.n=xs.length:=by simpa using ho.1
 have main:∀base,base<=w.heap.size->w.ownsRow base ty_uint8 1 s.v s.n (xs.map byteV)->∃v' w',(Builtin.append_ #[ty_sl_uint8,ty_string] ty #[s.v,.string t]).run Tryz.prog w=.ok v' w'/\w'.ownsRow base ty_uint8 1 v' (s.n+t.size) (xs.map byteV++strCells t)/\w.grownBy w' s.v.ownBlock/\(v'=.slice none 0 0↔s.v=.slice none 0 0/\t.size=0):=
  λbase hb0 h0=>run_append_own_string (P:=Tryz.prog) w base ty_sl_uint8 ty_string ty ty_uint8 i el_bytes.ht str_und hi hz hsz hby s.v s.n (xs.map byteV) h0 t (by unfold maxLen;omega) (by omega) hb0
 obtain ⟨v',w',hrun,hown,hgr,hnil⟩:=main 0 (Nat.zero_le _) ho.2
 have hv:∃s':Sl,v'=s'.v/\s'.n=s.n+t.size:=by
  rcases hown.2 with ⟨h1,h2⟩|⟨g,cap,cur,h1,_⟩
  .exact ⟨⟨none,0,0⟩,h1,by show 0=_;omega⟩
  .exact ⟨⟨_,_,_⟩,h1,rfl⟩
 obtain ⟨s',rfl,hn'⟩:=hv
 have hfr:Fr (λb=>b∈blkL s) w w':=by
  refine Fr.grown hgr λg hg=>?_
  rw [ownBlock_v] at hg
  cases hsa:s.a with
  |none=>simp [hsa] at hg
  |some p=>simp [hsa] at hg;simp [blkL,hsa,hg]
 refine ⟨s',w',hrun,⟨?_,?_⟩,hfr,?_⟩
 .rw [hn',hn];simp [bl_len]
 .have h2:=hown
  rw [strCells_bl,<-List.map_append] at h2
  unfold OwnRow;rw [hn'];exact h2
 .intro g hg
  rcases ho.2.cases with ⟨rfl,hx⟩|⟨g0,cur,hga,hgg,hnc,hcm,hcsz,htk⟩
  .obtain ⟨v2,w2,hrun2,hown2,_,_⟩:=main w.heap.size (Nat.le_refl _) (by rw [hx];exact World.ownsRow_nil w _ _ _)
   have e1:(Result.ok s'.v w':Result Value)=.ok v2 w2:=hrun.symm.trans hrun2
   have e2:=(Result.ok.inj e1).1
   subst e2
   rcases hown2.2 with ⟨h1,_⟩|⟨g2,cap2,cur2,h1,h2,_⟩
   .have:s'.a=none:=(Value.slice.inj h1).1
    simp [blkL,this] at hg
   .have:s'.a=some ⟨g2,0,none⟩:=(Value.slice.inj h1).1
    simp [blkL,this] at hg
    exact .inr (hg▸h2)
  .obtain ⟨sa0,sn0,sc0⟩:=s
   simp only at hga hnc hcsz htk hn
   subst hga
   by_cases hroom:sn0+t.size<=sc0
   .have hr2:=run_append_room_string (P:=Tryz.prog) w ty_sl_uint8 ty_string ty ty_uint8 i el_bytes.ht str_und hi hsz g0 sn0 sc0 cur hgg t hroom (by omega)
    have e1:=hrun.symm.trans hr2
    have:s'.a=some ⟨g0,0,none⟩:=(Value.slice.inj (Result.ok.inj e1).1).1
    simp [blkL,this] at hg ⊢
    exact .inl hg
   .have holds:∀j u,(xs.map byteV)[j]? =some u->w.cell? ((⟨g0,0,none⟩:Addr).add j)=some u:=World.ownsRow.cells (g:=g0) ho.2 rfl
    have hr2:=run_append_grow_string (P:=Tryz.prog) w ty_sl_uint8 ty_string ty ty_uint8 i (.int .u8 0) el_bytes.ht str_und hi hz ⟨g0,0,none⟩ sn0 sc0 (xs.map byteV) (by rw [hsz];simp;omega) holds t (by omega) (by omega) (growslice_fits (by omega) (by rw [hby];omega))
    have e1:=hrun.symm.trans hr2
    have:s'.a=some ⟨w.heap.size,0,none⟩:=(Value.slice.inj (Result.ok.inj e1).1).1
    simp [blkL,this] at hg
    exact .inr (by omega)
theorem bytes_str {w:World} {s:Sl} {bs:List UInt8} (h:Bytes w s bs):(Go.convert ty_sl_uint8 ty_string s.v).run Tryz.prog w=.ok (.string (ba bs)) w:=by
 obtain ⟨a,n,c⟩:=s
 have hn:=Bytes.len h
 simp only at hn
 subst hn
 cases a with
 |none=>
  obtain ⟨e1,e2⟩:=h.2.2.1 rfl
  simp only at e1 e2
  obtain rfl:bs=[]:=List.eq_nil_of_length_eq_zero e1
  rw [run_convert_bytes_string (P:=Tryz.prog) w ty_sl_uint8 ty_string ty_uint8 _ _ _ el_bytes.ht u8_und str_und]
  rfl
 |some p=>
  refine run_convert_bytes_back (P:=Tryz.prog) w ty_sl_uint8 ty_string ty_uint8 p c bs el_bytes.ht u8_und str_und λj hj=>?_
  obtain ⟨q,hq,hc⟩:=h.2.2.2 j (byteV bs[j]) (by simp [qgE hj])
  cases hq;exact hc
theorem str_bytes (w:World) (t:ByteArray):∃s' w',(Go.convert ty_string ty_sl_uint8 (.string t)).run Tryz.prog w=.ok s'.v w'/\Bytes w' s' (bl t)/\Fr0 w w'/\(∀b∈blkL s',w.heap.size<=b/\b<w'.heap.size):=by
 refine ⟨⟨some ⟨w.heap.size,0,none⟩,t.size,grownCap w t.size 0 ty_uint8⟩,_,run_bytes_of_string (P:=Tryz.prog) w ty_string ty_sl_uint8 ty_uint8 t str_und el_bytes.ht u8_und,⟨?_,?_,?_⟩,?_,?_⟩
 .simp [bl_len]
 .exact grownCap_ge w t.size 0 _
 .refine Row.crow (T:=ty_uint8) (.inr ⟨w.heap.size,0,_,_,rfl,heap_new w.drew _,λi v hi=>?_⟩)
  rw [Nat.zero_add,bytesRow,Array.getElem?_append]
  have hlt:i<t.data.size:=by
   have:=(List.getElem?_eq_some_iff.1 hi).1
   simpa [bl] using this
  rw [if_pos (by simpa using hlt)]
  simpa [bl,byteV] using hi
 .exact (Fr.drew _ w).tr0 (Fr.alloc _ _ _)
 .intro b hb
  simp [blkL] at hb
  have:(w.drew.alloc (.cells (bytesRow t (grownCap w t.size 0 ty_uint8)) ty_uint8 ((bytesRow t (grownCap w t.size 0 ty_uint8)).size,(bytesRow t (grownCap w t.size 0 ty_uint8)).size+1))).heap.size=w.heap.size+1:=size_alloc _ _
  omega
theorem rd_in {w:World} {s:Sl} {vs:List Value} (hn:s.n=vs.length) (hc:s.n<=s.c) (h0:s.a=none->s.c=0) (h:∀i v,vs[i]? =some v->∃p,s.a=some p/\w.cell? (p.add i)=some v):Rd w s vs:=
 ⟨hn,hc,λha=>⟨by have:=h0 ha;omega,h0 ha⟩,h⟩
def ArgNums (w:World) (s:Sl):Prop:=∃l:List Int,Nums w s l/\l.length<=9223372036854775807/\∀x∈l,-9223372036854775808<=x/\x<=9223372036854775807
theorem arg_nums_nil (w:World):ArgNums w ⟨none,0,0⟩:=⟨[],Rd.nil w,by simp,by simp⟩
theorem arg_nums (w:World) (x:Addr) (len cap:Nat) (zs:List Int) (hz:len<=zs.length) (hl:len<=cap) (hm:cap<=maxLen) (hc:∀i,i<zs.length->w.cell? (x.add i)=some (.int .i64 (zs.getD i 0))) (hw:∀n∈zs,IntKind.min .i64<=n/\n<=IntKind.max .i64):ArgNums w ⟨some x,len,cap⟩:=by
 refine ⟨zs.take len,rd_in (by simp;omega) hl (λh=>by cases h) (λi v hi=>?_),?_,λn hn=>hw n (List.mem_of_mem_take hn)⟩
 .rw [List.getElem?_map,List.getElem?_take] at hi
  split at hi
  .have hlt:i<zs.length:=by omega
   refine ⟨x,rfl,?_⟩
   rw [hc i hlt,List.getD_eq_getElem?_getD]
   rw [qgE hlt] at hi ⊢
   simpa [intV] using hi
  .simp at hi
 .have:len<=maxLen:=by omega
  unfold maxLen at this
  simp;omega
def NewBytes (w:World) (bs:List UInt8):Post:=λr w'=>∃s:Sl,r=.returned s.v/\BytesO w' s bs/\Fr0 w w'/\∀b∈blkL s,w.heap.size<=b
open Go Go.W
def aroundI (n m:Int):Int:=if n<0 then Int.tmod (0 - (n+1)) m else Int.tmod n m
theorem aroundI_range (n m:Int) (hm:1<=m):0<=aroundI n m/\aroundI n m<m:=by
 unfold aroundI
 split
 .exact ⟨Int.tmod_nonneg _ (by omega),Int.tmod_lt_of_pos _ (by omega)⟩
 .exact ⟨Int.tmod_nonneg _ (by omega),Int.tmod_lt_of_pos _ (by omega)⟩
abbrev I64 (n:Int):Prop:=-9223372036854775808<=n/\n<=9223372036854775807
theorem around_any (n m:Int) (w:World) (hm:1<=m) (h:I64 n):
  Calls Tryz.prog n_enthymemeref01_Around #[.int .i64 n,.int .i64 m] w λr w'=>r=.returned (.int .i64 (aroundI n m))/\w=w':=by
 obtain ⟨h1,h2⟩:=h
 refine enthymemeref01_Around.ok n m w _ ?_
 refine sel_intro (λh=>?_) (λh=>?_)
 .have h':n<0:=by simpa using h
  refine ⟨by omega,?_,rfl⟩
  rw [show IntKind.wrap .i64 (n+1)=n+1 from IntWalk.i64_in _ (by omega),show IntKind.wrap .i64 (0 - (n+1))=0 - (n+1) from IntWalk.i64_in _ (by omega)]
  unfold aroundI;rw [if_pos h']
 .have h':¬n<0:=by simpa using h
  refine ⟨by omega,?_,rfl⟩
  unfold aroundI;rw [if_neg h']
theorem same_bytes {w:World} {s t:Sl} {a b:List UInt8} (ha:Bytes w s a) (hb:Bytes w t b) (hl:a.length<=1000000000000):
  Calls Tryz.prog n_enthymemeref01_SameBytes #[s.v,t.v] w λr w'=>r=.returned (.bool (decide (a=b)))/\Fr0 w w':=by
 have hn:=Bytes.len ha
 have hm:=Bytes.len hb
 refine enthymemeref01_SameBytes.ok s t w _ ?_
 refine sel_intro (λh=>?_) (λh=>?_)
 .refine ⟨?_,Fr.refl _ _⟩
  have:a≠b:=λe=>by subst e;rw [hn,hm] at h;simp at h
  simp [this]
 .have hlen:a.length=b.length:=by rw [hn,hm] at h;simp at h;omega
  have main:∀(n i:Nat),i+n=a.length->a.take i=b.take i->∀w',Fr0 w w'->enthymemeref01_SameBytes.L0 s t (i:Int) w' λr w'=>r=.returned (.bool (decide (a=b)))/\Fr0 w w':=by
   intro n
   induction n with
   |zero=>
    intro i hi he w' hf
    refine enthymemeref01_SameBytes.L0_step _ _ _ _ _ ?_
    refine sel_false (by rw [hn];simp;omega) ⟨?_,hf⟩
    rw [qtOL (by omega),qtOL (by omega)] at he
    simp [he]
   |succ n ih=>
    intro i hi he w' hf
    have hia:a[i]? =some a[i]:=qgE (by omega)
    have hib:b[i]? =some b[i]:=qgE (by omega)
    refine enthymemeref01_SameBytes.L0_step _ _ _ _ _ ?_
    have fd:Fr0 w w'.drew:=hf.tr0 (Fr.drew _ _)
    refine sel_true (by rw [hn];simp;omega) ⟨by omega,by rw [hn];omega,Bytes.cell (ha.fr0 fd) hia (by simp) λp _ hp=>⟨_,hp,by omega,by rw [hm];omega,Bytes.cell (hb.fr0 fd) hib (by simp) λq _ hq=>⟨_,hq,sel_intro (λh=>?_) (λh=>?_)⟩⟩⟩
    .refine ⟨?_,fd⟩
     have:a≠b:=λe=>by subst e;simp at h
     simp [this]
    .show enthymemeref01_SameBytes.L0 s t (IntKind.wrap .i64 ((i:Int)+1)) _ _
     rw [show IntKind.wrap .i64 ((i:Int)+1)=((i+1:Nat):Int) from by rw [IntWalk.i64_in _ (by omega)];omega]
     refine ih (i+1) (by omega) ?_ _ fd
     have e:a[i]=b[i]:=by
      have h':((a[i].toNat:Nat):Int)=(b[i].toNat:Int):=by simpa using h
      exact UInt8.toNat_inj.1 (by omega)
     rw [qtO,qtO,hia,hib,he,e]
  exact main a.length 0 (by omega) (by simp) w (Fr.refl _ _)
theorem same_ints {w:World} {s t:Sl} {a b:List Int} (ha:Nums w s a) (hb:Nums w t b) (hl:a.length<=1000000000000):
  Calls Tryz.prog n_enthymemeref01_SameInts #[s.v,t.v] w λr w'=>r=.returned (.bool (decide (a=b)))/\Fr0 w w':=by
 have hn:=Nums.len ha
 have hm:=Nums.len hb
 refine enthymemeref01_SameInts.ok s t w _ ?_
 refine sel_intro (λh=>?_) (λh=>?_)
 .refine ⟨?_,Fr.refl _ _⟩
  have:a≠b:=λe=>by subst e;rw [hn,hm] at h;simp at h
  simp [this]
 .have hlen:a.length=b.length:=by rw [hn,hm] at h;simp at h;omega
  have main:∀(n i:Nat),i+n=a.length->a.take i=b.take i->∀w',Fr0 w w'->enthymemeref01_SameInts.L0 s t (i:Int) w' λr w'=>r=.returned (.bool (decide (a=b)))/\Fr0 w w':=by
   intro n
   induction n with
   |zero=>
    intro i hi he w' hf
    refine enthymemeref01_SameInts.L0_step _ _ _ _ _ ?_
    refine sel_false (by rw [hn];simp;omega) ⟨?_,hf⟩
    rw [qtOL (by omega),qtOL (by omega)] at he
    simp [he]
   |succ n ih=>
    intro i hi he w' hf
    have hia:a[i]? =some a[i]:=qgE (by omega)
    have hib:b[i]? =some b[i]:=qgE (by omega)
    refine enthymemeref01_SameInts.L0_step _ _ _ _ _ ?_
    have fd:Fr0 w w'.drew:=hf.tr0 (Fr.drew _ _)
    refine sel_true (by rw [hn];simp;omega) ⟨by omega,by rw [hn];omega,Nums.cell (ha.fr0 fd) hia (by simp) λp _ hp=>⟨_,hp,by omega,by rw [hm];omega,Nums.cell (hb.fr0 fd) hib (by simp) λq _ hq=>⟨_,hq,sel_intro (λh=>?_) (λh=>?_)⟩⟩⟩
    .refine ⟨?_,fd⟩
     have:a≠b:=λe=>by subst e;simp at h
     simp [this]
    .show enthymemeref01_SameInts.L0 s t (IntKind.wrap .i64 ((i:Int)+1)) _ _
     rw [show IntKind.wrap .i64 ((i:Int)+1)=((i+1:Nat):Int) from by rw [IntWalk.i64_in _ (by omega)];omega]
     refine ih (i+1) (by omega) ?_ _ fd
     have e:a[i]=b[i]:=by
      simpa using h
     rw [qtO,qtO,hia,hib,he,e]
  exact main a.length 0 (by omega) (by simp) w (Fr.refl _ _)
theorem lh0 {w:World} (D:List En) (h:∀e∈D,e.P w):LH F0 w w [] D:=LH.start D h
inductive Rx where
 |mk (k:Int) (lo hi:UInt8) (l:List Rx)
inductive Rt where
 |mk (k:Int) (lo hi:UInt8) (s:Sl) (l:List Rt)
namespace Rt
def k:Rt->Int|.mk k _ _ _ _=>k
def lo:Rt->UInt8|.mk _ lo _ _ _=>lo
def hi:Rt->UInt8|.mk _ _ hi _ _=>hi
def s:Rt->Sl|.mk _ _ _ s _=>s
def l:Rt->List Rt|.mk _ _ _ _ l=>l
mutual
def rx:Rt->Rx|.mk k lo hi _ l=>.mk k lo hi (rxs l)
def rxs:List Rt->List Rx
 |[]=>[]
 |t::l=>t.rx::rxs l
end
mutual
def sz:Rt->Nat|.mk _ _ _ _ l=>1+szs l
def szs:List Rt->Nat
 |[]=>0
 |t::l=>t.sz+szs l
end
def c (t:Rt):List Value:=[.int .i64 t.k,.int .u8 (t.lo.toNat:Int),.int .u8 (t.hi.toNat:Int),t.s.v]
abbrev v (t:Rt):Value:=.agg #[.int .i64 t.k,.int .u8 (t.lo.toNat:Int),.int .u8 (t.hi.toNat:Int),t.s.v]
abbrev row (s:Sl) (l:List Rt):En:=.rdn 4 s (l.flatMap c)
mutual
def P (w:World):Rt->Prop|.mk _ _ _ s l=>RdN 4 w s (l.flatMap c)/\Ps w l
def Ps (w:World):List Rt->Prop
 |[]=>True
 |t::l=>P w t/\Ps w l
end
mutual
def fp:Rt->List Nat|.mk _ _ _ s l=>(row s l).fp++fps l
def fps:List Rt->List Nat
 |[]=>[]
 |t::l=>fp t++fps l
end
theorem c_len (t:Rt):(c t).length=4:=rfl
theorem cs_len (l:List Rt):(l.flatMap c).length=l.length *4:=flat_length c 4 c_len l
theorem rows_n {w:World} {s:Sl} {l:List Rt} (h:RdN 4 w s (l.flatMap c)):s.n=l.length:=by
 have:=h.1
 rw [cs_len] at this
 omega
theorem rxs_map:∀l:List Rt,rxs l=l.map rx
 |[]=>rfl
 |t::l=>by unfold rxs;rw [rxs_map l];rfl
mutual
theorem keep {w w':World}:∀(t:Rt),(∀b∈t.fp,b<w.heap.size->w'.heap[b]? =w.heap[b]?)->P w t->P w' t
 |.mk k lo hi s l,h,hp=>by
  unfold fp at h
  unfold P at hp ⊢
  exact ⟨(row s l).st w w' (λb hb=>h b (List.mem_append_left _ hb)) hp.1,keeps l (λb hb=>h b (List.mem_append_right _ hb)) hp.2⟩
theorem keeps {w w':World}:∀(l:List Rt),(∀b∈fps l,b<w.heap.size->w'.heap[b]? =w.heap[b]?)->Ps w l->Ps w' l
 |[],_,_=>by unfold Ps;trivial
 |t::l,h,hp=>by
  unfold fps at h
  unfold Ps at hp ⊢
  exact ⟨keep t (λb hb=>h b (List.mem_append_left _ hb)) hp.1,keeps l (λb hb=>h b (List.mem_append_right _ hb)) hp.2⟩
end
mutual
theorem lt {w:World}:∀(t:Rt),P w t->∀b∈t.fp,b<w.heap.size
 |.mk k lo hi s l,hp,b,hb=>by
  unfold fp at hb
  unfold P at hp
  rcases qmA.1 hb with hb|hb
  .exact (row s l).lt w hp.1 b hb
  .exact lts l hp.2 b hb
theorem lts {w:World}:∀(l:List Rt),Ps w l->∀b∈fps l,b<w.heap.size
 |[],_,b,hb=>by unfold fps at hb;cases hb
 |t::l,hp,b,hb=>by
  unfold fps at hb
  unfold Ps at hp
  rcases qmA.1 hb with hb|hb
  .exact lt t hp.1 b hb
  .exact lts l hp.2 b hb
end
theorem P.fr0 {w w':World} {t:Rt} (h:P w t) (f:Fr0 w w'):P w' t:=keep t (λb _ hl=>f.keep b hl id) h
theorem Ps.fr0 {w w':World} {l:List Rt} (h:Ps w l) (f:Fr0 w w'):Ps w' l:=keeps l (λb _ hl=>f.keep b hl id) h
theorem Ps.get {w:World}:∀{l:List Rt},Ps w l->∀{i:Nat} {t:Rt},l[i]? =some t->P w t
 |[],_,i,t,h=>by simp at h
 |a::l,hp,0,t,h=>by
  unfold Ps at hp
  simp at h;subst h;exact hp.1
 |a::l,hp,i+1,t,h=>by
  unfold Ps at hp
  exact Ps.get hp.2 (by simpa using h)
theorem Ps.mem {w:World} {l:List Rt} (h:Ps w l) {t:Rt} (ht:t∈l):P w t:=by
 obtain ⟨i,hi⟩:=List.mem_iff_getElem?.1 ht
 exact h.get hi
theorem ps_of {w:World}:∀{l:List Rt},(∀t∈l,P w t)->Ps w l
 |[],_=>by unfold Ps;trivial
 |t::l,h=>by
  unfold Ps
  exact ⟨h t (by simp),ps_of λt' ht=>h t' (by simp [ht])⟩
theorem fps_iff:∀{l:List Rt} {b:Nat},b∈fps l↔∃t∈l,b∈t.fp
 |[],b=>by unfold fps;simp
 |t::l,b=>by
  unfold fps
  rw [qmA,fps_iff]
  simp
theorem szs_mem:∀{l:List Rt} {t:Rt},t∈l->t.sz<=szs l
 |a::l,t,h=>by
  unfold szs
  rcases List.mem_cons.1 h with rfl|h
  .omega
  .have:=szs_mem h;omega
theorem sz_pos (t:Rt):1<=t.sz:=by cases t;unfold sz;omega
theorem szs_len:∀l:List Rt,l.length<=szs l
 |[]=>by simp
 |t::l=>by
  have:=szs_len l
  have:=sz_pos t
  unfold szs
  simp only [List.length_cons]
  omega
theorem P.parts {w:World} {t:Rt} (h:P w t):RdN 4 w t.s (t.l.flatMap c)/\Ps w t.l:=by cases t;unfold P at h;exact h
theorem fp_parts {t:Rt} {b:Nat}:b∈t.fp↔b∈(row t.s t.l).fp\/b∈fps t.l:=by cases t;unfold fp;exact qmA
theorem sz_parts (t:Rt):t.sz=1+szs t.l:=by cases t;rfl
theorem rx_parts (t:Rt):t.rx=.mk t.k t.lo t.hi (rxs t.l):=by cases t;rfl
structure Cells (w:World) (p:Addr) (i:Nat) (t:Rt):Prop where
 c0:w.cell? ((p.add (i *4)).add 0)=some (.int .i64 t.k)
 c1:w.cell? ((p.add (i *4)).add 1)=some (.int .u8 (t.lo.toNat:Int))
 c2:w.cell? ((p.add (i *4)).add 2)=some (.int .u8 (t.hi.toNat:Int))
 c3:w.cell? ((p.add (i *4)).add 3)=some t.s.v
theorem at' {w:World} {s:Sl} {l:List Rt} (h:RdN 4 w s (l.flatMap c)) {i:Nat} {t:Rt} (hi:l[i]? =some t) {K:Addr->Prop} (hk:∀p,s.a=some p->Cells w p i t->K p):optP s.a K:=
 CRow.elem (f:=c) (sz:=4) c_len (by omega) h.2.2 hi λp hp hc=>hk p hp ⟨hc 0 _ rfl,hc 1 _ rfl,hc 2 _ rfl,hc 3 _ rfl⟩
theorem again {w:World} {s:Sl} {l:List Rt} (h:RdN 4 w s (l.flatMap c)) {i:Nat} {t:Rt} (hi:l[i]? =some t) {p:Addr} (hp:s.a=some p):Cells w p i t:=by
 have hk:=at' h hi (K:=λq=>∃q',s.a=some q'/\Cells w q' i t) (λq hq hc=>⟨q,hq,hc⟩)
 rw [hp] at hk
 obtain ⟨q,hq,d⟩:=hk
 cases hq
 exact d
end Rt
def _root_.Go.W.En.tree (t:Rt):En:=⟨nub t.fp,λw=>t.P w,λw w' h hp=>Rt.keep t (λb hb=>h b (mem_nub.2 hb)) hp,λw hp b hb=>Rt.lt t hp b (mem_nub.1 hb),nub_nodup _⟩
def _root_.Go.W.En.trees (l:List Rt):En:=⟨nub (Rt.fps l),λw=>Rt.Ps w l,λw w' h hp=>Rt.keeps l (λb hb=>h b (mem_nub.2 hb)) hp,λw hp b hb=>Rt.lts l hp b (mem_nub.1 hb),nub_nodup _⟩
namespace Rx
def k:Rx->Int|.mk k _ _ _=>k
def lo:Rx->UInt8|.mk _ lo _ _=>lo
def hi:Rx->UInt8|.mk _ _ hi _=>hi
def l:Rx->List Rx|.mk _ _ _ l=>l
mutual
def sz:Rx->Nat|.mk _ _ _ l=>1+szs l
def szs:List Rx->Nat
 |[]=>0
 |t::l=>t.sz+szs l
end
end Rx
mutual
theorem Rt.rx_sz:∀t:Rt,t.rx.sz=t.sz
 |.mk k lo hi s l=>by unfold Rt.rx Rx.sz Rt.sz;rw [Rt.rxs_sz l]
theorem Rt.rxs_sz:∀l:List Rt,Rx.szs (Rt.rxs l)=Rt.szs l
 |[]=>rfl
 |t::l=>by unfold Rt.rxs Rx.szs Rt.szs;rw [Rt.rx_sz t,Rt.rxs_sz l]
end
end Go.Proofs.YthnoidogkbbkhaaGreatDoor
