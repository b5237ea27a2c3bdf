import Derived.Test.YtcifihepfadgfaaGreatDoorW
import Derived.Test.YtcifihepfadgfaaGreatDoorB
import Derived.Test.YtcifihepfadgfaaGreatDoorVB
import Derived.Test.YtcifihepfadgfaaGreatDoorE1
import Derived.MapKept
import Derived.Test.YtcifihepfadgfaaGreatDoorTP
set_option linter.unusedVariables false
namespace Go.Proofs.YtcifihepfadgfaaGreatDoor
open List renaming mem_cons->cU,not_mem_nil->qnM,mem_of_getElem?->dC,getElem?_eq_getElem->g7,mem_flatMap->mV,length_append->qlA,mem_of_mem_take->KC,append_assoc->qaA,length_take->qlT,flatMap_append->qfA,flatMap_cons->qfC,drop_eq_getElem_cons->qdG,nil_append->qnA0,cons_append->qcA,take_add_one->qtO,drop_of_length_le->qdO
open Go Go.W
def q6 (n:Nat):List UInt8:=if n<128 then [UInt8.ofNat n] else UInt8.ofNat (n%128+128)::q6 (n / 128)
termination_by n
decreasing_by omega
theorem kW {n:Nat} (h:n<128):q6 n=[UInt8.ofNat n]:=by rw [q6,if_pos h]
theorem mG {n:Nat} (h:¬n<128):q6 n=UInt8.ofNat (n%128+128)::q6 (n / 128):=by rw [q6,if_neg h]
theorem DB:∀(d n:Nat),n<2 *128^d->(q6 n).length<=d+1
 |0,n,h=>by rw [kW (by omega)];simp
 |d+1,n,h=>by
  by_cases hn:n<128
  .rw [kW hn];simp
  .rw [mG hn]
   have:=DB d (n / 128) (by rw [Nat.pow_succ] at h;omega)
   simp;omega
def zz (n:Int):Nat:=if 0<=n then (2 *n).toNat else (-(2 *n) - 1).toNat
theorem Sj (n:Int) (h1:-9223372036854775808<=n) (h2:n<=9223372036854775807):zz n<18446744073709551616:=by
 unfold zz;split<;>omega
def jk (w:World) (wb:Nat) (bs:List UInt8) (own:List Nat):Prop:=
 ∃s:Sl,own=wb::bA s/\w.heap[wb]? =some (.cells #[s.v] gn (0,0))/\mZ w s bs
theorem Rz {w:World} {e T:TypeId} {s:Sl} {vs:List Value} (h:Ow w e s vs) {b:Nat} {cs:Array Value} {f:Nat×Nat} (hb:w.heap[b]? =some (.cells cs T f)) (hT:e≠T):b∉bA s:=λhm=>by
 obtain ⟨UH,f',hc⟩:=h.2.row.Uu b hm
 rw [hc] at hb
 injection hb with hb
 injection hb with _ ht _
 exact hT ht
theorem jk.lt {w:World} {wb:Nat} {bs:List UInt8} {own:List Nat} (h:jk w wb bs own):∀b∈own,b<w.heap.size:=by
 obtain ⟨s,rfl,h1,h2⟩:=h
 intro b hb
 rcases cU.1 hb with rfl|hb
 .exact gg h1
 .exact h2.lt b hb
theorem jk.fr {M:Nat->Prop} {w w':World} {wb:Nat} {bs:List UInt8} {own:List Nat} (h:jk w wb bs own) (hf:Fr M w w') (hn:∀b∈own,¬M b):jk w' wb bs own:=by
 obtain ⟨s,rfl,h1,h2⟩:=h
 exact ⟨s,rfl,hf.at h1 (hn _ (by simp)),h2.fr hf λb hb=>hn b (by simp [hb])⟩
theorem jk.ot {w w':World} {wb:Nat} {bs:List UInt8} {own:List Nat} (h:jk w wb bs own) (hf:bF w w'):jk w' wb bs own:=h.fr hf λ_ _ h=>h
theorem jk.new (w:World):jk (w.alloc (.cells #[.slice none 0 0] gn)) w.heap.size [] [w.heap.size]:=⟨⟨none,0,0⟩,rfl,nj w _,Ow.nil _ _⟩
def se (w:World) (wb:Nat) (own:List Nat) (bs:List UInt8) (w':World):Prop:=∃il,jk w' wb bs il/\Fr (·∈own) w w'/\∀x∈il,x∈own\/w.heap.size<=x
def sg (w:World) (wb:Nat) (own:List Nat) (bs:List UInt8):aD:=λr w'=>r=.returned (.tuple #[])/\se w wb own bs w'
theorem se.refl {w:World} {wb:Nat} {own:List Nat} {bs:List UInt8} (h:jk w wb bs own):se w wb own bs w:=⟨own,h,Fr.refl _ _,λ_ h=>.inl h⟩
theorem se.then {w w' rC:World} {wb:Nat} {own il:List Nat} {Fe:List UInt8} (h1:Fr (·∈own) w w') (h2:∀x∈il,x∈own\/w.heap.size<=x) (h:se w' wb il Fe rC):se w wb own Fe rC:=by
 obtain ⟨WH,r,f,o⟩:=h
 refine ⟨WH,r,h1.trans f λx hx hm=>?_,λx hx=>?_⟩
 .rcases h2 x hm with h|h
  .exact h
  .omega
 .rcases o x hx with h|h
  .exact h2 x h
  .exact .inr (Nat.le_trans h1.size h)
theorem E9 {w w1 w2:World} {wb:Nat} {s s':Sl} {bs Fe:List UInt8} (hc:w.heap[wb]? =some (.cells #[s.v] gn (0,0))) (h0:mZ w s bs) (f1:bF w w1) (ho:mZ w2 s' Fe) (f2:Fr (·∈bA s) w1 w2) (A5:∀b∈bA s',b∈bA s\/w1.heap.size<=b):
  (w2.cell? ((bD wb).add 0)).isSome=true/\w2.frozen? ((bD wb).add 0)=false/\se w wb (wb::bA s) Fe (w2.setCell ((bD wb).add 0) s'.v):=by
 have iq:wb∉bA s:=Rz h0 hc (by decide)
 have c2:=f2.at (f1.at hc id) iq
 have c3:(w2.setCell ((bD wb).add 0) s'.v).heap[wb]? =_:=setAt (p:=bD wb) (i:=0) (v:=s'.v) c2 rfl
 have f3:Fr (·=wb) w2 (w2.setCell ((bD wb).add 0) s'.v):=Fr.set _ _ _ rfl
 have Zv:wb∉bA s':=Rz ho c2 (by decide)
 refine ⟨by rw [cellAt (p:=bD wb) c2 rfl rfl];rfl,frozenAt (p:=bD wb) c2,wb::bA s',⟨s',rfl,c3,ho.fr f3 λb hb e=>Zv (e▸hb)⟩,?_,?_⟩
 .exact ((f1.Z6 (M:=(·∈wb::bA s))).trans f2 λx _ hx=>by simp [hx]).trans f3 λx _ hx=>by simp [hx]
 .intro x hx
  rcases cU.1 hx with rfl|hx
  .exact .inl (by simp)
  .rcases A5 x hx with h|h
   .exact .inl (by simp [h])
   .exact .inr (Nat.le_trans f1.size h)
theorem yk {w:World} {wb:Nat} {s:Sl} (hc:w.heap[wb]? =some (.cells #[s.v] gn (0,0))):w.cell? ((bD wb).add 0)=some s.v:=cellAt (p:=bD wb) hc rfl rfl
theorem xM {w:World} {wb:Nat} {s:Sl} {bs:List UInt8} (hc:w.heap[wb]? =some (.cells #[s.v] gn (0,0))) (h0:mZ w s bs) (hl:bs.length<100000000000000) (c:UInt8) (K:World->Prop) (hK:∀w',se w wb (wb::bA s) (bs++[c]) w'->K w'):
  ∃(t15:W.Sl) (w2:World),Sem.run Tryz.prog (Builtin.append_ #[bJ,bJ] bJ #[s.v,.slice (some (Addr.mk w.heap.size 0 none)) 1 1]) (w.alloc (.cells #[.int .u8 (c.toNat:Int)] dB))=.ok (t15.v) w2/\(w2.cell? ((bD wb).add 0)).isSome=true/\w2.frozen? ((bD wb).add 0)=false/\K (w2.setCell ((bD wb).add 0) (t15.v)):=by
 have f1:bF w (w.alloc (.cells #[.int .u8 (c.toNat:Int)] dB)):=Fr.alloc _ _ _
 obtain ⟨s',w2,g1,g2,g3,g4,g5⟩:=uJ (ty:=bJ) (h0.ot f1) (MM w c) (by simp;omega)
 obtain ⟨a1,a2,a3⟩:=E9 hc h0 f1 g2 g3 g4
 exact ⟨s',w2,g1,a1,a2,hK _ a3⟩
theorem E7 {wb:Nat} (R:aD):∀(n:Nat) (w:World) (bs:List UInt8) (own:List Nat),n<18446744073709551616->bs.length+(q6 n).length<=100000000000000->jk w wb bs own->(∀w',se w wb own (bs++q6 n) w'->R (.returned (.tuple #[])) w')->
  wire_Writer_Uint.L0 (bD wb) (n:Int) w R:=by
 intro n
 induction n using Nat.strongRecOn with
 |_ n ih=>
  intro w bs own hn hl hr hR
  obtain ⟨s,rfl,h1,h2⟩:=hr
  refine wire_Writer_Uint.cO _ _ _ _ ?_
  refine bB (λh=>?_) (λh=>?_)
  .have wC:¬n<128:=by simp at h;omega
   rw [mG wC] at hl
   have e:IntKind.wrap .u8 (n:Int)=_:=Ny n
   refine ⟨s,yk h1,?_⟩
   rw [e,FC _ (by omega)]
   have e2:((n%256%128+128:Nat):Int)=((UInt8.ofNat (n%128+128)).toNat:Int):=by simp;omega
   rw [e2]
   refine xM h1 h2 (by simp at hl;omega) (UInt8.ofNat (n%128+128)) (λw'=>wire_Writer_Uint.L0 (bD wb) (Int.fdiv (n:Int) (2^7)) w' R) λw' hw=>?_
   show wire_Writer_Uint.L0 (bD wb) (Int.fdiv (n:Int) (2^7)) w' R
   rw [show ((2:Int)^7)=((128:Nat):Int) from rfl,LO n 128 (by omega)]
   obtain ⟨il,r',f',o'⟩:=hw
   refine ih (n / 128) (by omega) w' _ il (by omega) (by simp at hl ⊢;omega) r' λrC ZQ=>hR rC ?_
   rw [mG wC,show bs++UInt8.ofNat (n%128+128)::q6 (n / 128)=(bs++[UInt8.ofNat (n%128+128)])++q6 (n / 128) by simp]
   exact ZQ.then f' o'
  .have wC:n<128:=by simp at h;omega
   rw [kW wC] at hl
   have e:IntKind.wrap .u8 (n:Int)=((UInt8.ofNat n).toNat:Int):=by rw [Ny];simp
   refine ⟨s,yk h1,?_⟩
   rw [e]
   refine xM h1 h2 (by simp at hl;omega) (UInt8.ofNat n) (λw'=>R (.returned (.tuple #[])) w') λw' hw=>hR w' ?_
   rw [kW wC];exact hw
theorem gJ (n:Nat) (h:n<18446744073709551616):(q6 n).length<=10:=DB 9 n (by simpa using h)
theorem zT {w:World} {wb:Nat} {bs:List UInt8} {own:List Nat} (hr:jk w wb bs own) (n:Nat) (hn:n<18446744073709551616) (hl:bs.length<=10000000000000):
  Calls Tryz.prog gL #[.pointer (some (bD wb)),.int .u64 (n:Int)] w (sg w wb own (bs++q6 n)):=
 wire_Writer_Uint.ok _ _ w _ (E7 _ n w bs own hn (by have:=gJ n hn;omega) hr λw' h=>⟨rfl,h⟩)
theorem Qq (n:Int) (h:nO n):W.Oa .u64 (IntKind.wrap .u64 ((IntKind.wrap .u64 n) *2^1)) (IntKind.wrap .u64 (Int.fdiv n (2^63)))=(zz n:Int):=by
 obtain ⟨h1,h2⟩:=h
 have e63:((2:Int)^63)=9223372036854775808:=rfl
 rw [e63,Int.fdiv_eq_ediv_of_nonneg _ (by omega),IntKind.wrap_u64,IntKind.wrap_u64,IntKind.wrap_u64]
 by_cases h0:0<=n
 .have e1:(n / 9223372036854775808)%18446744073709551616=((0:Nat):Int):=by omega
  have e2:(n%18446744073709551616 *2^1)%18446744073709551616=((2 *n).toNat:Int):=by omega
  rw [e1,e2,Db _ _ (by omega) (by omega),Nat.xor_zero]
  unfold zz;rw [if_pos h0]
 .have e1:(n / 9223372036854775808)%18446744073709551616=((18446744073709551615:Nat):Int):=by omega
  have e2:(n%18446744073709551616 *2^1)%18446744073709551616=((18446744073709551616+2 *n).toNat:Int):=by omega
  rw [e1,e2,Db _ _ (by omega) (by omega),NI _ (by omega)]
  unfold zz;rw [if_neg h0]
  omega
def q0 (n:Int):List UInt8:=q6 (zz n)
theorem xL {w:World} {wb:Nat} {bs:List UInt8} {own:List Nat} (hr:jk w wb bs own) (n:Int) (hn:nO n) (hl:bs.length<=10000000000000):
  Calls Tryz.prog dR #[.pointer (some (bD wb)),.int .i64 n] w (sg w wb own (bs++q0 n)):=by
 refine wire_Writer_Int.ok _ _ w _ ?_
 rw [Qq n hn]
 refine (zT hr (zz n) (Sj n hn.1 hn.2) hl).mono ?_
 rintro r w1 ⟨rfl,h⟩
 exact ⟨rfl,rfl,h⟩
def B0 (b:List UInt8):List UInt8:=q6 b.length++b
theorem Ux {w:World} {wb:Nat} {bs:List UInt8} {own:List Nat} (hr:jk w wb bs own) (t:ByteArray) (hl:bs.length+t.size<=10000000000000):
  Calls Tryz.prog mK #[.pointer (some (bD wb)),.string t] w (sg w wb own (bs++B0 (bl t))):=by
 refine wire_Writer_Text.ok _ _ w _ ?_
 rw [IX _ (by omega)]
 refine (zT hr t.size (by omega) (by omega)).mono ?_
 rintro r w1 ⟨rfl,oN,r1,f1,o1⟩
 have l10:=gJ t.size (by omega)
 obtain ⟨s1,rfl,c1,b1⟩:=r1
 obtain ⟨s',w2,g1,g2,g3,g4⟩:=FA (ty:=bJ) b1 t (by simp;omega)
 obtain ⟨a1,a2,a3⟩:=E9 c1 b1 (Fr.refl _ w1) g2 g3 g4
 rw [qaA] at a3
 exact ⟨rfl,s1,yk c1,s',w2,g1,a1,a2,rfl,a3.then f1 o1⟩
def yM (l:List Int):List UInt8:=q6 l.length++l.flatMap q0
theorem fN (n:Int) (h:nO n):(q0 n).length<=10:=gJ _ (Sj n h.1 h.2)
theorem ve:∀(l:List Int),(∀x∈l,nO x)->(l.flatMap q0).length<=10 *l.length
 |[],_=>by simp
 |x::l,h=>by
  have h1:=fN x (h x (by simp))
  have h2:=ve l λy hy=>h y (by simp [hy])
  simp at h2 ⊢
  omega
theorem E6 {wb:Nat} {s:Sl} {l:List Int} (R:aD) (hi:∀x∈l,nO x) (hl:l.length<=100000000000):∀(d i:Nat),i+d=l.length->∀(w:World) (bs:List UInt8) (own:List Nat),jk w wb bs own->fB w s l->(∀x∈bA s,x∉own)->(∀x∈bA s,x<w.heap.size)->bs.length+10 *d<=10000000000000->
  (∀w',se w wb own (bs++(l.drop i).flatMap q0) w'->R (.returned (.tuple #[])) w')->wire_Writer_Ints.L0 (bD wb) s (l.length:Int) (i:Int) w R:=by
 intro d
 induction d with
 |zero=>
  intro i hd w bs own hr hs hx lC hb hR
  refine wire_Writer_Ints.cO _ _ _ _ _ _ ?_
  refine aM (by simp;omega) (hR w ?_)
  rw [qdO (by omega)]
  simpa using se.refl hr
 |succ d ih=>
  intro i hd w bs own hr hs hx lC hb hR
  have hg:l[i]? =some l[i]:=g7 (by omega)
  have hm:l[i]∈l:=List.getElem_mem _
  refine wire_Writer_Ints.cO _ _ _ _ _ _ ?_
  refine aS (by simp;omega) ⟨by omega,by rw [fB.len hs];omega,fB.cell hs hg (by simp) λp _ hp=>⟨_,hp,(xL hr _ (hi _ hm) (by omega)).mono ?_⟩⟩
  rintro r w1 ⟨rfl,oN,r1,f1,o1⟩
  refine ⟨rfl,?_⟩
  show wire_Writer_Ints.L0 (bD wb) s (l.length:Int) (IntKind.wrap .i64 ((i:Int)+1)) w1 R
  rw [aZ i (by omega)]
  have l10:=fN _ (hi _ hm)
  refine ih (i+1) (by omega) w1 _ oN r1 (hs.fr f1 hx) (λx D3 JD=>?_) (λx D3=>Nat.lt_of_lt_of_le (lC x D3) f1.size) (by simp;omega) λw2 h2=>hR w2 ?_
  .rcases o1 x JD with h|h
   .exact hx x D3 h
   .have:=lC x D3;omega
  .rw [qdG (by omega),qfC,<-qaA]
   exact h2.then f1 o1
theorem Uw {w:World} {wb:Nat} {bs:List UInt8} {own:List Nat} (hr:jk w wb bs own) {s:Sl} {l:List Int} (hb:fB w s l) (hd:∀x∈bA s,x∉own) (lC:∀x∈bA s,x<w.heap.size) (hi:∀x∈l,nO x) (hl:bs.length+10 *l.length<=1000000000000):
  Calls Tryz.prog ke #[.pointer (some (bD wb)),s.v] w (sg w wb own (bs++yM l)):=by
 refine wire_Writer_Ints.ok _ _ w _ ?_
 rw [fB.len hb,IX _ (by omega)]
 refine (zT hr l.length (by omega) (by omega)).mono ?_
 rintro r w1 ⟨rfl,oN,r1,f1,o1⟩
 have l10:=gJ l.length (by omega)
 refine ⟨rfl,?_⟩
 dsimp only
 refine E6 _ hi (by omega) l.length 0 (by omega) w1 _ oN r1 (hb.fr f1 hd) (λx D3 JD=>?_) (λx D3=>Nat.lt_of_lt_of_le (lC x D3) f1.size) (by simp;omega) λw2 h2=>⟨rfl,?_⟩
 .rcases o1 x JD with h|h
  .exact hd x D3 h
  .have:=lC x D3;omega
 .rw [List.drop_zero,qaA] at h2
  exact h2.then f1 o1
theorem Dr (s:Sl) (bs:List UInt8) (w:World) (hb:Bytes w s bs) (hl:bs.length<=140737488355328):Calls Tryz.prog ik #[s.v] w (λr w'=>∃s:Sl,r=.returned s.v/\mZ w' s bs/\bF w w'/\∀b∈bA s,w.heap.size<=b):=by
 refine slices_Clone_sl_byte_byte.ok s w _ ?_
 refine bB (λh=>?_) (λh=>?_)
 .have hn:bs=[]:=by
   have:=(hb.2.2.1 (by simpa using h)).1
   exact List.eq_nil_of_length_eq_zero (by rw [<-Bytes.len hb,this])
  subst hn
  exact ⟨⟨none,0,0⟩,rfl,Ow.nil w _,Fr.refl _ _,by simp [bA]⟩
 .show (λw1:World=>∃(t7:Sl) (w2:World),Sem.run Tryz.prog (Builtin.append_ #[bJ,bJ] bJ #[.slice (some (nb w)) 0 0,s.v]) w1=.ok (t7.v) w2/\(∃s:Sl,Ending.returned t7.v=.returned s.v/\mZ w2 s bs/\bF w w2/\∀b∈bA s,w.heap.size<=b)) (w.alloc (.cells #[] dB))
  generalize hw1:w.alloc (.cells #[] dB)=w1
  subst hw1
  let w1:=w.alloc (.cells #[] dB)
  have ho:mZ w1 ⟨some ⟨w.heap.size,0,none⟩,0,0⟩ []:=Ow.made w dB [] 0 rfl (by omega)
  have Ku:Bytes w1 s bs:=hb.ot (Fr.alloc _ _ _)
  obtain ⟨s',w2,lH,Ap,A7,A5,_⟩:=uJ (ty:=bJ) ho Ku (by simp;omega)
  refine ⟨s',w2,lH,s',rfl,by simpa using Ap,?_,?_⟩
  .refine (Fr.alloc (λ_=>False) w _).trans A7 λx hx hm=>?_
   simp [bA] at hm
   omega
  .intro b eC
   rcases A5 b eC with h|h
   .simp [bA] at h;omega
   .have:w1.heap.size=w.heap.size+1:=size_alloc _ _
    omega
theorem NH {w:World} {wb:Nat} {bs:List UInt8} {own:List Nat} (hr:jk w wb bs own) (hl:bs.length<=100000000000000):
  Calls Tryz.prog kc #[.pointer (some (bD wb))] w (KR w bs):=by
 obtain ⟨s,rfl,h1,h2⟩:=hr
 refine wire_Writer_Done.ok _ w _ ⟨s,yk h1,(Dr s bs w h2.rd (by omega)).mono ?_⟩
 rintro r w1 ⟨s',rfl,h⟩
 exact ⟨s',rfl,s',rfl,h⟩
set_option maxRecDepth 100000
set_option maxHeartbeats 1000000
def lS (n:Nx):List UInt8:=q0 n.op++(yM n.kids++(q0 n.n++(q0 n.m++(q6 n.u.toNat++(B0 (bl n.tx)++(q0 n.st.k++(q0 n.st.n++q0 n.st.x)))))))
structure Ks (x:Nx):Prop where
 op:nO x.op
 ks:∀k∈x.kids,nO k
 kl:x.kids.length<=1000000000
 n:nO x.n
 m:nO x.m
 u:0<=x.u/\x.u<18446744073709551616
 tx:x.tx.size<=1000000000
 sk:nO x.st.k
 sn:nO x.st.n
 sx:nO x.st.x
theorem JU {n:Nx} (W:Ks n):(lS n).length<=20000000000:=by
 have h1:=fN _ W.op
 have h2:=ve _ W.ks
 have h3:=fN _ W.n
 have h4:=fN _ W.m
 have h5:=gJ n.u.toNat (by have:=W.u;omega)
 have h6:=fN _ W.sk
 have h7:=fN _ W.sn
 have h8:=fN _ W.sx
 have h9:=gJ n.kids.length (by have:=W.kl;omega)
 have h0:=gJ (bl n.tx).length (by have:=W.tx;rw [hV];omega)
 have k1:=W.kl
 have k2:=W.tx
 have k3:=hV n.tx
 unfold lS yM B0
 simp only [qlA]
 omega
theorem ph {P:Program} {f:FuncId} {args:Array Value} {w0 w:World} {wb:Nat} {T3:List Nat} {bs Fe:List UInt8} (h:se w0 wb T3 bs w) (hc:∀own,jk w wb bs own->(∀x∈own,x∈T3\/w0.heap.size<=x)->Calls P f args w (sg w wb own Fe)) {K:World->Prop} (hK:∀w',se w0 wb T3 Fe w'->K w'):
  Calls P f args w λr w'=>r=.returned (.tuple #[])/\K w':=by
 obtain ⟨own,hr,hf,ho⟩:=h
 refine (hc own hr ho).mono ?_
 rintro r w' ⟨rfl,h'⟩
 exact ⟨rfl,hK w' (se.then hf ho h')⟩
theorem Qn {w:World} {wb:Nat} {bs:List UInt8} {own:List Nat} (hr:jk w wb bs own) {s:Sl} {l:List Int} (hb:fB w s l) (hd:∀x∈(En.rd s (l.map ia)).fp,x∉own) (hi:∀x∈l,nO x) (hl:bs.length+10 *l.length<=1000000000000):
  Calls Tryz.prog ke #[.pointer (some (bD wb)),s.v] w (sg w wb own (bs++yM l)):=by
 by_cases h0:l=[]
 .subst h0
  have hn:s.n=0:=fB.len hb
  refine wire_Writer_Ints.ok _ _ w _ ?_
  rw [hn]
  refine (zT hr 0 (by omega) (by omega)).mono ?_
  rintro r w1 ⟨rfl,h⟩
  refine ⟨rfl,wire_Writer_Ints.cO _ _ _ _ _ _ (aM (by decide) ⟨rfl,?_⟩)⟩
  simpa [yM] using h
 .have CQ:(En.rd s (l.map ia)).fp=bA s:=by
   show (if l.map ia=[] then [] else bA s)=_
   rw [if_neg (by simpa using h0)]
  exact Uw hr hb (λx hx=>hd x (CQ▸hx)) (λx hx=>(En.rd s (l.map ia)).lt w hb x (CQ▸hx)) hi hl
theorem IU {w:World} {wb:Nat} {bs:List UInt8} {own:List Nat} (hr:jk w wb bs own) {p:Addr} {d:Nd} (hp:jI w p d) (hd:d.P w) (h1:p.block∉own) (h2:∀x∈(fF d).fp,x∉own) (W:Ks d.x) (hl:bs.length<=100000000000):
  Calls Tryz.prog o4 #[.pointer (some (bD wb)),.pointer (some p)] w (sg w wb own (bs++lS d.x)):=by
 have at_:∀{Fe:List UInt8} {w':World},se w wb own Fe w'->jI w' p d:=λ⟨_,_,f,_⟩=>hp.st λlC=>f.gV _ lC h1
 have kd:∀{Fe:List UInt8} {w':World},se w wb own Fe w'->fB w' d.ks d.x.kids:=λ⟨_,_,f,_⟩=>(fF d).st w _ (λb hb hl=>f.gV _ hl (h2 b hb)) hd
 have k1:=fN _ W.op
 have k2:=ve _ W.ks
 have k3:=fN _ W.n
 have k4:=fN _ W.m
 have hu:d.x.u=((d.x.u.toNat:Nat):Int):=by have:=W.u;omega
 have k5:=gJ d.x.u.toNat (by have:=W.u;omega)
 have k6:=fN _ W.sk
 have k7:=fN _ W.sn
 have k9:=gJ d.x.kids.length (by have:=W.kl;omega)
 have k0:=gJ (bl d.x.tx).length (by have:=W.tx;rw [hV];omega)
 have m1:=W.kl
 have m2:=W.tx
 have m3:=hV d.x.tx
 have lL:(yM d.x.kids).length<=10000000010:=by unfold yM;simp only [qlA];omega
 have lR:(B0 (bl d.x.tx)).length<=1000000010:=by unfold B0;simp only [qlA];omega
 refine term_write.ok _ _ w _ ⟨_,hp.c0,ph (se.refl hr) (λo r _=>xL r _ W.op (by omega)) λw1 a1=>⟨_,(at_ a1).c1,ph a1 (λo r ho=>Qn r (kd a1) (λx hx hm=>?_) W.ks (by simp only [qlA];omega)) λw2 a2=>⟨_,(at_ a2).c2,ph a2 (λo r _=>xL r _ W.n (by simp only [qlA];omega)) λw3 a3=>⟨_,(at_ a3).c3,ph a3 (λo r _=>xL r _ W.m (by simp only [qlA];omega)) λw4 a4=>⟨_,(at_ a4).c4,?_⟩⟩⟩⟩⟩
 .rcases ho x hm with h|h
  .exact h2 x hx h
  .have:=(fF d).lt w hd x hx
   omega
 rw [hu]
 refine ph a4 (λo r _=>zT r d.x.u.toNat (by have:=W.u;omega) (by simp only [qlA];omega)) λw5 a5=>⟨_,(at_ a5).c5,ph a5 (λo r _=>Ux r d.x.tx (by simp only [qlA];omega)) λw6 a6=>⟨_,(at_ a6).s0,ph a6 (λo r _=>xL r _ W.sk (by simp only [qlA];omega)) λw7 a7=>⟨_,(at_ a7).s1,ph a7 (λo r _=>xL r _ W.sn (by simp only [qlA];omega)) λw8 a8=>⟨_,(at_ a8).s2,ph a8 (λo r _=>xL r _ W.sx (by simp only [qlA];omega)) λw9 a9=>⟨rfl,?_⟩⟩⟩⟩⟩
 unfold lS
 simp only [qaA] at a9
 exact a9
theorem IS {w:World} {p:Addr} {d:Nd} (hp:jI w p d) (hd:d.P w) (W:Ks d.x):
  Calls Tryz.prog o3 #[.pointer (some p)] w λr w'=>r=.returned (.string (ba (lS d.x)))/\bF w w':=by
 refine term_keyOf.ok _ w _ ?_
 have f0:bF w (w.alloc (.cells #[.slice none 0 0] gn)):=Fr.alloc _ _ _
 have lt:=JU W
 refine (IU (jk.new w) (hp.st λlC=>f0.gV _ lC id) ((fF d).st w _ (λb hb hl=>f0.gV _ hl id) hd) (by have:=jI.lt hp;simp;omega) (λx hx=>by have:=(fF d).lt w hd x hx;simp;omega) W (by simp)).mono ?_
 rintro r w1 ⟨rfl,il,r1,f1,o1⟩
 rw [qnA0] at r1
 refine ⟨rfl,(NH r1 (by omega)).mono ?_⟩
 rintro r w2 ⟨s,rfl,hs,f2,_⟩
 refine ⟨s,rfl,_,qF hs.rd,rfl,?_⟩
 exact (f0.trans f1 λx hx hm=>by simp at hm;omega).zM f2
theorem CJ {a b:Nat} (ha:a<256) (hb:b<256) (h:UInt8.ofNat a=UInt8.ofNat b):a=b:=by
 have:=congrArg UInt8.toNat h
 simp at this
 omega
theorem u7:∀(n m:Nat) (r s:List UInt8),q6 n++r=q6 m++s->n=m/\r=s:=by
 intro n
 induction n using Nat.strongRecOn with
 |_ n ih=>
  intro m r s h
  by_cases hn:n<128<;>by_cases hm:m<128
  .rw [kW hn,kW hm] at h
   simp only [qcA,qnA0,List.cons.injEq] at h
   exact ⟨CJ (by omega) (by omega) h.1,h.2⟩
  .rw [kW hn,mG hm] at h
   simp only [qcA,qnA0,List.cons.injEq] at h
   have:=CJ (by omega) (by omega) h.1
   omega
  .rw [mG hn,kW hm] at h
   simp only [qcA,qnA0,List.cons.injEq] at h
   have:=CJ (by omega) (by omega) h.1
   omega
  .rw [mG hn,mG hm] at h
   simp only [qcA,List.cons.injEq] at h
   have h1:=CJ (by omega) (by omega) h.1
   have h2:=ih (n / 128) (by omega) _ _ _ h.2
   exact ⟨by omega,h2.2⟩
theorem Uz {a b:Int} (h:zz a=zz b):a=b:=by
 unfold zz at h
 split at h<;>split at h<;>omega
theorem pI {n m:Int} {r s:List UInt8} (h:q0 n++r=q0 m++s):n=m/\r=s:=by
 have:=u7 _ _ _ _ h
 exact ⟨Uz this.1,this.2⟩
theorem A0:∀{a b:List Int} {r s:List UInt8},a.length=b.length->a.flatMap q0++r=b.flatMap q0++s->a=b/\r=s
 |[],[],_,_,_,h=>⟨rfl,h⟩
 |[],_::_,_,_,hl,_=>by simp at hl
 |_::_,[],_,_,hl,_=>by simp at hl
 |x::a,y::b,r,s,hl,h=>by
  simp only [qfC,qaA] at h
  obtain ⟨h1,h2⟩:=pI h
  obtain ⟨h3,h4⟩:=A0 (a:=a) (b:=b) (by simpa using hl) h2
  exact ⟨by rw [h1,h3],h4⟩
theorem LJ {a b:List Int} {r s:List UInt8} (h:yM a++r=yM b++s):a=b/\r=s:=by
 unfold yM at h
 simp only [qaA] at h
 obtain ⟨h1,h2⟩:=u7 _ _ _ _ h
 exact A0 h1 h2
theorem LK {a b:List UInt8} {r s:List UInt8} (h:B0 a++r=B0 b++s):a=b/\r=s:=by
 unfold B0 at h
 simp only [qaA] at h
 obtain ⟨h1,h2⟩:=u7 _ _ _ _ h
 exact List.append_inj h2 h1
theorem JS {n m:Nx} (hn:0<=n.u) (hm:0<=m.u) (h:lS n=lS m):n=m:=by
 unfold lS at h
 obtain ⟨h1,h⟩:=pI h
 obtain ⟨h2,h⟩:=LJ h
 obtain ⟨h3,h⟩:=pI h
 obtain ⟨h4,h⟩:=pI h
 obtain ⟨h5,h⟩:=u7 _ _ _ _ h
 obtain ⟨h6,h⟩:=LK h
 obtain ⟨h7,h⟩:=pI h
 obtain ⟨h8,h⟩:=pI h
 have h9:=(pI (r:=[]) (s:=[]) (by simpa using h)).1
 have u5:n.u=m.u:=by omega
 have u6:n.tx=m.tx:=by
  have:=congrArg ba h6
  rwa [AK,AK] at this
 obtain ⟨a1,a2,a3,a4,a5,a6,⟨a7,a8,a9⟩⟩:=n
 obtain ⟨b1,b2,b3,b4,b5,b6,⟨b7,b8,b9⟩⟩:=m
 simp only at h1 h2 h3 h4 u5 u6 h7 h8 h9
 clear h5 h6
 subst h1 h2 h3 h4 u5 u6 h7 h8 h9
 rfl
def vo (n:Nx):ByteArray:=ba (lS n)
theorem Ms {n m:Nx} (hn:0<=n.u) (hm:0<=m.u) (h:vo n=vo m):n=m:=by
 refine JS hn hm ?_
 have:=congrArg bl h
 unfold vo at this
 rwa [yu,yu] at this
def nc (es:Array MapEntry) (ms:List (ByteArray×Value)):Prop:=es.toList.map (λe=>(e.key,e.val))=ms.map λp=>(Value.string p.1,p.2)
def ur (ms:List (ByteArray×Value)) (k:ByteArray):Option Value:=(ms.find? λp=>decide (p.1=k)).map (·.2)
theorem Oc (a b:ByteArray):(a==b)=decide (b=a):=by
 cases h:decide (b=a) with
 |true=>rw [of_decide_eq_true h];exact (Go.MapKept.bytes_beq _ _).2 rfl
 |false=>
  cases hc:(a==b) with
  |false=>rfl
  |true=>exact absurd ((Go.MapKept.bytes_beq _ _).1 hc).symm (of_decide_eq_false h)
theorem sC {k:ByteArray}:∀{es:List MapEntry} {ms:List (ByteArray×Value)} {i:Nat},es.map (λe=>(e.key,e.val))=ms.map (λp=>(Value.string p.1,p.2))->
  Instr.findNow .string (.string k) es i=some ((ms.findIdx? λp=>decide (p.1=k)).bind λj=>(ms[j]?).map λp=>(i+j,p.2))
 |[],[],i,_=>rfl
 |[],_::_,_,h=>by simp at h
 |_::_,[],_,h=>by simp at h
 |e::es,p::ms,i,h=>by
  simp only [List.map_cons,List.cons.injEq,Prod.mk.injEq] at h
  obtain ⟨⟨h1,h2⟩,h3⟩:=h
  have ih:=sC (k:=k) (i:=i+1) h3
  unfold Instr.findNow
  simp only [h1,Instr.sameNow,Oc]
  by_cases hk:p.1=k
  .have e2:decide (p.1=k)=true:=decide_eq_true hk
   simp [List.findIdx?_cons,hk,h2]
  .have e2:decide (p.1=k)=false:=decide_eq_false hk
   simp only [ih,List.findIdx?_cons,e2,Bool.false_eq_true,if_false]
   congr 1
   cases hf:ms.findIdx? (λp=>decide (p.1=k)) with
   |none=>simp
   |some j=>simp [Nat.add_assoc,Nat.add_comm 1 j]
theorem EI {ms:List (ByteArray×Value)} {k:ByteArray} {i:Nat}:(((ms.findIdx? λp=>decide (p.1=k)).bind λj=>(ms[j]?).map λp=>(i+j,p.2)).map (·.2))=ur ms k:=by
 unfold ur
 induction ms generalizing i with
 |nil=>rfl
 |cons p ms ih=>
  by_cases hk:p.1=k
  .simp [List.findIdx?_cons,hk]
  .have e2:decide (p.1=k)=false:=decide_eq_false hk
   simp only [List.findIdx?_cons,e2,Bool.false_eq_true,if_false,List.find?_cons]
   rw [<-ih (i:=i+1)]
   cases hf:ms.findIdx? (λp=>decide (p.1=k)) with
   |none=>simp
   |some j=>simp [Function.comp_def]
structure BH (P:Program) (T kt et:TypeId) (z:Value):Prop where
 hT:P.underlying T=some (.map kt et)
 hk:P.underlying kt=some .string
 hz:(P.info? et).map (·.zero)=some (some z)
theorem uT {P:Program} {kt:TypeId} (hk:P.underlying kt=some .string) (b:Bool) (k:ByteArray) (w:World):(Instr.checkKey b 10000 kt (.string k)).run P w=.ok () w:=by
 unfold Instr.checkKey
 simp [run_underlying hk]
theorem za {P:Program} {T kt et:TypeId} {z:Value} (mo:BH P T kt et z) {w:World} {mb:Nat} {es:Array MapEntry} {clock:Nat} {ms:List (ByteArray×Value)}
  (hm:w.heap[mb]? =some (.map es clock)) (vY:nc es ms) (k:ByteArray):
  (Instr.lookup T (.map (some mb)) (.string k) true).run P w=.ok (.tuple #[(ur ms k).getD z,.bool (ur ms k).isSome]) w:=by
 have hf:=sC (k:=k) (i:=0) vY
 have hg:(getObj mb).run P w=.ok (.map es clock) w:=by simp [getObj,Sem.run,hm]
 have An:=EI (ms:=ms) (k:=k) (i:=0)
 unfold Instr.lookup Instr.findKey
 simp only [Sem.run_bind,run_underlying mo.hT,Result.andThen_ok,hg,Sem.run_pure,uT mo.hk,run_underlying mo.hk,hf]
 cases hr:((ms.findIdx? λp=>decide (p.1=k)).bind λj=>(ms[j]?).map λp=>(0+j,p.2)) with
 |none=>rw [hr] at An;simp [<-An,tO mo.hz]
 |some q=>rw [hr] at An;simp [<-An]
theorem zP {P:Program} {T kt et:TypeId} {z:Value} (mo:BH P T kt et z) {w:World} {mb:Nat} {es:Array MapEntry} {clock:Nat} {ms:List (ByteArray×Value)}
  (hm:w.heap[mb]? =some (.map es clock)) (vY:nc es ms) (k:ByteArray) (v:Value) (wD:ur ms k=none):
  ∃w' HF,(Instr.mapUpdate T (.map (some mb)) (.string k) v).run P w=.ok () w'/\w'.heap[mb]? =some (.map HF (clock+1))/\nc HF (ms++[(k,v)])/\Fr (λb=>b=mb) w w'/\w'.heap.size=w.heap.size:=by
 have hf:=sC (k:=k) (i:=0) vY
 have hg:(getObj mb).run P w=.ok (.map es clock) w:=by simp [getObj,Sem.run,hm]
 have An:=EI (ms:=ms) (k:=k) (i:=0)
 have lC:=gg hm
 have hr:((ms.findIdx? λp=>decide (p.1=k)).bind λj=>(ms[j]?).map λp=>(0+j,p.2))=none:=by
  rw [wD] at An;simpa using An
 refine ⟨{w with heap:=w.heap.setIfInBounds mb (.map (es.push {key:=.string k,val:=v,born:=clock}) (clock+1))},es.push {key:=.string k,val:=v,born:=clock},?_,by simp [lC],?_,Fr.setObj w mb _ rfl,by simp⟩
 .unfold Instr.mapUpdate Instr.findKey
  simp only [Sem.run_bind,run_underlying mo.hT,Result.andThen_ok,hg,uT mo.hk,run_underlying mo.hk,hf,hr]
  simp [setObj,Sem.run,hm]
 .unfold nc at vY ⊢
  simp [vY]
def ja:List Nx->Nat->List (ByteArray×Value)
 |[],_=>[]
 |d::g,i=>(vo d,.i (i:Int))::ja g (i+1)
theorem xC (n:Nx):∀(g:List Nx) (i:Nat),ja (g++[n]) i=ja g i++[(vo n,.i ((i+g.length:Nat):Int))]
 |[],i=>by simp [ja]
 |d::g,i=>by
  have:=xC n g (i+1)
  simp only [qcA,ja,this,List.length_cons]
  rw [show i+1+g.length=i+(g.length+1) by omega]
theorem um {n:Nx} (hn:0<=n.u):∀{g:List Nx} {i:Nat},(∀d∈g,0<=d.u)->ur (ja g i) (vo n)=(mU n g i).map λk:Nat=>.i (k:Int)
 |[],i,_=>rfl
 |d::g,i,h=>by
  have ih:=um hn (g:=g) (i:=i+1) λe he=>h e (by simp [he])
  unfold ur at ih ⊢
  unfold ja mU
  by_cases hd:d=n
  .subst hd
   simp
  .have hk:¬vo d=vo n:=λe=>hd (Ms (h d (by simp)) hn e)
   rw [if_neg hd,List.find?_cons]
   simp only [decide_eq_false hk]
   exact ih
def nK:List Nx->List (ByteArray×Value)
 |[]=>[]
 |d::g=>if d.op=0 then (d.tx,kh d.st)::nK g else nK g
theorem zR (n:Nx):∀(g:List Nx),nK (g++[n])=nK g++(if n.op=0 then [(n.tx,kh n.st)] else [])
 |[]=>by
  unfold nK
  simp only [qnA0,nK]
 |d::g=>by
  have:=zR n g
  simp only [qcA,nK,this]
  split<;>simp
theorem xd (t:ByteArray):∀(g:List Nx),ur (nK g) t=(rB g t).map kh
 |[]=>rfl
 |d::g=>by
  have ih:=xd t g
  unfold ur at ih ⊢
  unfold nK rB
  by_cases h0:d.op=0
  .rw [if_pos h0,List.find?_cons]
   by_cases ht:d.tx=t
   .rw [if_pos ⟨h0,ht⟩]
    simp [ht]
   .rw [if_neg (λh=>ht h.2)]
    simp only [decide_eq_false ht]
    exact ih
  .rw [if_neg h0,if_neg (λh=>h0 h.1)]
   exact ih
abbrev Kp (bb:Nat) (s:Sl) (mp mv:Nat) (l:List Nd) (u9:Array MapEntry) (c1:Nat) (ua:Array MapEntry) (c2:Nat):List En:=
 [.c bb [s.v,.map (some mp),.map (some mv)] g9,.row aE 9 s (l.flatMap Nd.c),.ob mp (.map u9 c1),.ob mv (.map ua c2)]
def mY (w:World) (bb:Nat) (l:List Nd) (own:List Nat):Prop:=∃(s:Sl) (mp mv:Nat) (u9:Array MapEntry) (c1:Nat) (ua:Array MapEntry) (c2:Nat),own=(Kp bb s mp mv l u9 c1 ua c2).flatMap (·.fp)/\own.Nodup/\(∀e∈Kp bb s mp mv l u9 c1 ua c2,e.P w)/\nc u9 (ja (xs l) 0)/\nc ua (nK (xs l))
def I0 (w:World) (bb:Nat) (own:List Nat) (l:List Nd) (w':World):Prop:=∃il,mY w' bb l il/\Fr (·∈own) w w'/\∀x∈il,x∈own\/w.heap.size<=x
theorem mY.open {w:World} {bb:Nat} {l:List Nd} {own:List Nat} (h:mY w bb l own) (D:List En) (hD:∀e∈D,e.P w/\∀b∈e.fp,b∉own):
  ∃(s:Sl) (mp mv:Nat) (u9:Array MapEntry) (c1:Nat) (ua:Array MapEntry) (c2:Nat),nc u9 (ja (xs l) 0)/\nc ua (nK (xs l))/\LH (·∈own) w w (Kp bb s mp mv l u9 c1 ua c2) D:=by
 obtain ⟨s,mp,mv,u9,c1,ua,c2,ho,hn,hP,h1,h2⟩:=h
 have vj:∀e∈Kp bb s mp mv l u9 c1 ua c2,∀b∈e.fp,b∈own:=λe he b hb=>by rw [ho];exact mV.2 ⟨e,he,hb⟩
 exact ⟨s,mp,mv,u9,c1,ua,c2,h1,h2,LH.zB _ _ (λe he=>⟨hP e he,vj e he⟩) (ho▸hn) (λe he=>⟨(hD e he).1,λb hb e' mJ hm=>(hD e he).2 b hb (vj e' mJ b hm)⟩)⟩
theorem mY.close {w w':World} {bb:Nat} {l:List Nd} {own:List Nat} {s:Sl} {mp mv:Nat} {u9:Array MapEntry} {c1:Nat} {ua:Array MapEntry} {c2:Nat} {D:List En} (H:LH (·∈own) w w' (Kp bb s mp mv l u9 c1 ua c2) D) (h1:nc u9 (ja (xs l) 0)) (h2:nc ua (nK (xs l))):I0 w bb own l w':=
 ⟨_,⟨s,mp,mv,u9,c1,ua,c2,rfl,H.nd,H.own,h1,h2⟩,H.fr,λx hx=>by
  obtain ⟨e,he,hb⟩:=mV.1 hx
  exact (H.new e he x hb).symm⟩
theorem zb:BH Tryz.prog nI cF bW (.int .i64 0):=⟨by kernel_rfl,by kernel_rfl,by kernel_rfl⟩
theorem Ee:BH Tryz.prog kj cF aR (.agg #[.int .i64 0,.int .i64 0,.int .i64 0]):=⟨by kernel_rfl,by kernel_rfl,by kernel_rfl⟩
def _root_.Go.W.En.cl (p:Addr) (v:Value):En:=⟨[p.block],λw=>w.cell? p=some v,λw w' h hp=>by
 have hl:=oW hp
 unfold World.cell? at hp ⊢
 rw [h p.block (by simp) hl]
 exact hp,λw hp b hb=>by simp at hb;subst hb;exact oW hp,by simp⟩
theorem look_eq {l:List Nd} (t:ByteArray):∃(a b c:Int) (y:Bool),((ur (nK (xs l)) t).getD (.agg #[.int .i64 0,.int .i64 0,.int .i64 0]))=.agg #[.i a,.i b,.i c]/\(ur (nK (xs l)) t).isSome=y/\sL (xs l) t=.returned (.tuple #[.agg #[.i a,.i b,.i c],.bool y]):=by
 rw [xd]
 unfold sL
 cases rB (xs l) t with
 |none=>exact ⟨0,0,0,false,rfl,rfl,rfl⟩
 |some s=>exact ⟨s.k,s.n,s.x,true,rfl,rfl,rfl⟩
theorem SG {w:World} {bb:Nat} {l:List Nd} {s:Sl} {mp mv:Nat} {u9:Array MapEntry} {c1:Nat} {ua:Array MapEntry} {c2:Nat} {t1:Addr} (h:∀e∈Kp bb s mp mv l u9 c1 ua c2,e.P w) (h2:nc ua (nK (xs l))) (ht:w.cell? t1=some (.pointer (some (bD bb)))) (t:ByteArray):
  Calls Tryz.prog gY #[.string t,.pointer (some t1)] w λr w'=>r=sL (xs l) t/\bF w w':=by
 have H:LH F0 w w [] (Kp bb s mp mv l u9 c1 ua c2++[.cl t1 (.pointer (some (bD bb)))]):=mf _ (by
  intro e he
  rcases List.mem_append.1 he with he|he
  .exact h e he
  .simp only [cU,qnM,or_false] at he
   subst he
   exact ht)
 obtain ⟨a,b,c,y,e1,e2,e3⟩:=look_eq (l:=l) t
 refine term_builder_sortOf_1.cT t t1 w _ (H.bI λb3 w1 H1=>⟨_,H1.getD 4,vB ⟨some mv,cellAt (p:=bD bb) (H1.getD 0) rfl rfl,a,b,c,y,?_,H1.bI λb5 w2 H2=>H2.aN λw3 H3=>⟨e3.symm,H3.fr⟩⟩⟩)
 rw [za Ee (H1.getD 3) h2 t,e1,e2]
theorem K3 {w:World} {bb:Nat} {l:List Nd} {own:List Nat} {d:Nd} (h:mY w bb l own) (Mj:∀e∈l,e.P w) (hd:d.P w) (hk:qc.P w) (ho:Hj d.x) (A8:l.length<=1000000000) (hv:∀e∈xs l,bN e.st=true):
  Calls Tryz.prog kI #[.pointer (some (bD bb)),d.v] w λr w'=>r=ku (eU (xs l) d.x)/\bF w w':=by
 obtain ⟨s,mp,mv,u9,c1,ua,c2,_,_,hP,_,h2⟩:=h
 have jK:aO w aE 9 s (l.flatMap Nd.c):=hP _ (dC (i:=1) rfl)
 have H:LH F0 w w [] (Kp bb s mp mv l u9 c1 ua c2++[.gr s l,fF d,qc]):=mf _ (by
  intro e he
  rcases List.mem_append.1 he with he|he
  .exact hP e he
  .simp only [cU,qnM,or_false] at he
   rcases he with rfl|rfl|rfl
   .exact cQ.2 ⟨jK.iQ,Mj⟩
   .exact hd
   .exact hk)
 refine term_builder_sortOf.cT _ _ _ _ _ _ _ _ _ _ w _ (H.nw λw1 _ H1=>H1.bI λb3 w2 H2=>H2.bI λb4 w3 H3=>H3.aN λw4 H4=>⟨_,H4.Gs 0,vB ⟨s,cellAt (p:=bD bb) (H4.getD 0) rfl rfl,?_⟩⟩)
 have Hs:LH F0 w4 w4 [] (.gr s l::fF d::qc::(Kp bb s mp mv l u9 c1 ua c2++[.cl (bD w.heap.size) (.pointer (some (bD bb)))])):=mf _ (by
  intro e he
  simp only [qcA,qnA0,cU,qnM,or_false] at he
  rcases he with rfl|rfl|rfl|rfl|rfl|rfl|rfl|rfl
  .exact H4.getD 4
  .exact H4.getD 5
  .exact H4.getD 6
  .exact H4.getD 0
  .exact H4.getD 1
  .exact H4.getD 2
  .exact H4.getD 3
  .exact H4.Gs 0)
 refine H4.aL (EZ ⟨gY,#[],#[.pointer (some (bD w.heap.size))]⟩ Hs (by kernel_rfl) (λw' As=>?_) ho A8 hv) ?_
 .exact SG (λe he=>As e (List.mem_append_left _ he)) h2 (As (.cl (bD w.heap.size) (.pointer (some (bD bb)))) (by simp)) d.x.tx
 .rintro _ w5 rfl H5
  exact ⟨_,_,_,_,rfl,H5.aN λw6 H6=>⟨rfl,H6.fr⟩⟩
def vc (g:List Nx) (n:Nx):Int×Bool:=match mU n g 0 with
 |some i=>((i:Int),true)
 |none=>(0,false)
theorem find_eq {g:List Nx} {n:Nx} (hn:0<=n.u) (hu:∀e∈g,0<=e.u):(ur (ja g 0) (vo n)).getD (.int .i64 0)=.i (vc g n).1/\(ur (ja g 0) (vo n)).isSome=(vc g n).2:=by
 rw [um hn hu]
 unfold vc
 cases mU n g 0 with
 |none=>exact ⟨rfl,rfl⟩
 |some i=>exact ⟨rfl,rfl⟩
theorem SE {w:World} {bb:Nat} {l:List Nd} {own:List Nat} {d:Nd} (h:mY w bb l own) (hd:d.P w) (W:Ks d.x) (hu:∀e∈xs l,0<=e.u):
  Calls Tryz.prog lZ #[.pointer (some (bD bb)),d.v] w λr w'=>r=.returned (.tuple #[.i (vc (xs l) d.x).1,.bool (vc (xs l) d.x).2])/\bF w w':=by
 obtain ⟨s,mp,mv,u9,c1,ua,c2,_,_,hP,h1,_⟩:=h
 have H:LH F0 w w [] (Kp bb s mp mv l u9 c1 ua c2++[fF d]):=mf _ (by
  intro e he
  rcases List.mem_append.1 he with he|he
  .exact hP e he
  .simp only [cU,qnM,or_false] at he
   subst he
   exact hd)
 refine term_builder_find.ok _ _ _ _ _ _ _ _ _ _ w _ (H.nw λw1 _ H1=>H1.dr λw2 H2=>⟨some mp,cellAt (p:=bD bb) (H2.getD 0) rfl rfl,H2.call (IS (d:=d) (ze (H2.ob 0)) (H2.getD 4) W) ?_⟩)
 rintro _ w3 rfl H3
 obtain ⟨e1,e2⟩:=find_eq W.u.1 hu
 refine ⟨_,rfl,cellAt (p:=bD bb) (H3.getD 0) rfl rfl,(vc (xs l) d.x).1,(vc (xs l) d.x).2,?_,rfl,H3.fr⟩
 have:=za zb (H3.getD 2) h1 (vo d.x)
 rw [e1,e2] at this
 exact this
theorem QK {w:World} {bb:Nat} {l:List Nd} {own:List Nat} {d:Nd} (h:mY w bb l own) (hd:d.P w) (hdo:∀b∈(fF d).fp,b∉own) (W:Ks d.x) (hu:∀e∈xs l,0<=e.u) (hl:l.length<=100000) (wD:d.x∉xs l) (ZO:d.x.op=0->rB (xs l) d.x.tx=none):
  Calls Tryz.prog j9 #[.pointer (some (bD bb)),d.v] w λr w'=>r=.returned (.i (l.length:Int))/\I0 w bb own (l++[d]) w':=by
 obtain ⟨s,mp,mv,u9,c1,ua,c2,h1,h2,H⟩:=h.open [fF d] (by
  intro e he
  simp only [cU,qnM,or_false] at he
  subst he
  exact ⟨hd,hdo⟩)
 have hn:s.n=l.length:=Nd.cB (show jJ 9 w s (l.flatMap Nd.c) from (show aO w aE 9 s (l.flatMap Nd.c) from H.get 1).iQ)
 have g1:ur (ja (xs l) 0) (vo d.x)=none:=by
  rw [um W.u.1 hu]
  cases hi:mU d.x (xs l) 0 with
  |none=>rfl
  |some i=>
   have:=(sI hi).2
   exact absurd (dC this) wD
 have exs:xs (l++[d])=xs l++[d.x]:=by simp [xs]
 have p1:ja (xs (l++[d])) 0=ja (xs l) 0++[(vo d.x,.i (l.length:Int))]:=by rw [exs,xC];simp [xs]
 have p2:nK (xs (l++[d]))=nK (xs l)++(if d.x.op=0 then [(d.x.tx,kh d.x.st)] else []):=by rw [exs,zR]
 have S0:∀(Oz:Array MapEntry) (Yq:Nat) (FR:Array MapEntry) (Yr Z3:Nat) (w1:World),nc Oz (ja (xs (l++[d])) 0)->nc FR (nK (xs (l++[d])))->LH (·∈own) w w1 (Kp bb s mp mv l Oz Yq FR Yr++[.c Z3 d.c aE]) [fF d]->
   term_builder_put.S0 (bD bb) (bD Z3) w1 λr w'=>r=.returned (.i (l.length:Int))/\I0 w bb own (l++[d]) w':=by
  intro Oz Yq FR Yr Z3 w1 q1 q2 H1
  refine H1.dr λw2 H2=>⟨s,H2.ld 0 0,?_⟩
  refine ⟨d.x.op,d.ks,d.x.n,d.x.m,d.x.u,d.x.tx,d.x.st.k,d.x.st.n,d.x.st.x,H2.ld 4 0,H2.ld 4 1,H2.ld 4 2,H2.ld 4 3,H2.ld 4 4,H2.ld 4 5,H2.ld 4 6,H2.ld 4 7,H2.ld 4 8,H2.nw λw3 _ H3=>⟨H3.ld 0 0,?_⟩⟩
  have D0:jJ 9 w3 ⟨some (bD w2.heap.size),1,1⟩ ([d].flatMap Nd.c):=by
   rw [show [d].flatMap Nd.c=d.c by simp]
   exact td (T:=aE) (H3.ob 5) rfl
  refine H3.ap 1 gR (src:=⟨some (bD w2.heap.size),1,1⟩) rfl D0.2.2 D0.1 nC (by simp only;omega) (λs' w4 H4 We _=>H4.st 0 0 rfl (λw5 H5=>⟨s',H5.ld 0 0,?_⟩))
  refine ⟨?_,mY.close (s:=s') (mp:=mp) (mv:=mv) (u9:=Oz) (c1:=Yq) (ua:=FR) (c2:=Yr) (D:=[fF d]) ?_ q1 q2⟩
  .rw [We,IntWalk.i64_in _ (by simp only;omega)]
   simp only
   rw [hn]
   congr 2
   omega
  .have:=H5.take 4
   unfold Kp
   rw [show (l++[d]).flatMap Nd.c=l.flatMap Nd.c++[d].flatMap Nd.c from qfA]
   exact this
 refine term_builder_put.ok _ _ _ _ _ _ _ _ _ _ w _ (H.nw λw1 _ H1=>H1.dr λw2 H2=>⟨some mp,H2.ld 0 1,s,H2.ld 0 0,H2.call (IS (d:=d) (ze (H2.ob 4)) (H2.getD 0) W) ?_⟩)
 rintro _ w3 rfl H3
 obtain ⟨w4,HF,u1,u2,u3,u4,_⟩:=zP zb (H3.ob 2) h1 (vo d.x) (.i ((s.n:Nat):Int)) g1
 have H4:=H3.CK 2 (.ob mp (.map HF (c1+1))) rfl (u4.mono λx _ e=>by simp [En.ob,e]) u2 (λb hb=>.inl hb)
 have q1:nc HF (ja (xs (l++[d])) 0):=by rw [p1,<-hn];exact u3
 refine ⟨_,rfl,H3.ld 0 0,H3.ld 0 1,w4,u1,d.x.op,H4.ld 4 0,aJ (λh0=>?_) (λh0=>?_)⟩
 .refine H4.dr λw5 H5=>⟨some mv,H5.ld 0 2,d.x.tx,H5.ld 4 5,?_⟩
  have g2:ur (nK (xs l)) d.x.tx=none:=by rw [xd,ZO h0];rfl
  obtain ⟨w6,FR,v1,v2,v3,v4,_⟩:=zP Ee (H5.ob 3) h2 d.x.tx (kh d.x.st) g2
  have H6:=H5.CK 3 (.ob mv (.map FR (c2+1))) rfl (v4.mono λx _ e=>by simp [En.ob,e]) v2 (λb hb=>.inl hb)
  have a:=ze (d:=d) (H5.ob 4)
  refine ⟨d.x.st.k,d.x.st.n,d.x.st.x,a.s0,a.s1,a.s2,w6,v1,S0 HF (c1+1) FR (c2+1) w.heap.size w6 q1 ?_ H6⟩
  rw [p2,if_pos h0]
  exact v3
 .refine S0 HF (c1+1) ua c2 w.heap.size w4 q1 ?_ H4
  rw [p2,if_neg h0,List.append_nil]
  exact h2
theorem mY.st {w w':World} {bb:Nat} {l:List Nd} {own:List Nat} (h:mY w bb l own) (k:∀b∈own,b<w.heap.size->w'.heap[b]? =w.heap[b]?):mY w' bb l own:=by
 obtain ⟨s,mp,mv,u9,c1,ua,c2,ho,hn,hP,h1,h2⟩:=h
 exact ⟨s,mp,mv,u9,c1,ua,c2,ho,hn,λe he=>e.st w w' (λb hb hl=>k b (by rw [ho];exact mV.2 ⟨e,he,hb⟩) hl) (hP e he),h1,h2⟩
theorem mY.lt {w:World} {bb:Nat} {l:List Nd} {own:List Nat} (h:mY w bb l own):∀b∈own,b<w.heap.size:=by
 obtain ⟨s,mp,mv,u9,c1,ua,c2,ho,hn,hP,h1,h2⟩:=h
 intro b hb
 rw [ho] at hb
 obtain ⟨e,he,hb⟩:=mV.1 hb
 exact e.lt w (hP e he) b hb
def _root_.Go.W.En.bu (bb:Nat) (own:List Nat) (l:List Nd):En:=⟨Gy own,λw=>mY w bb l own,λw w' h hp=>hp.st λb hb=>h b (aI.2 hb),λw hp b hb=>hp.lt b (aI.1 hb),lK _⟩
theorem SJ (w:World) (bb:Nat) (own:List Nat) (l:List Nd) (b:Nat):¬(En.bu bb own l).P ({w with heap:=Array.replicate (b+1) (.map #[] 0)}):=by
 rintro ⟨s,mp,mv,u9,c1,ua,c2,ho,hn,hP,h1,h2⟩
 have h:=hP _ (dC (i:=0) rfl)
 exact Hu w bb _ g9 b h
section
variable {M:Nat->Prop} {w0 w:World} {L D:List En} {bs:List Nat}
theorem _root_.Go.W.LH.buG (H:LH M w0 w L D) (i:Nat) {bb:Nat} {own:List Nat} {l l':List Nd} {w':World} (hi:L[i]? =some (.bu bb own l)) (h:I0 w bb own l' w'):∃il,LH M w0 w' (L.set i (.bu bb il l')) D/\mY w' bb l' il:=by
 obtain ⟨il,r,f,o⟩:=h
 exact ⟨il,H.CK i (.bu bb il l') hi (f.mono λx _ hx=>aI.2 hx) r (λb hb=>(o b (aI.1 hb)).imp aI.2 id),r⟩
theorem _root_.Go.W.LH.buC (H:LH M w0 w L D) (i:Nat) {bb:Nat} {own:List Nat} {l l':List Nd} {P:Program} {g:FuncId} {args:Array Value} {A:Ending->Prop} {K:aD} (hi:L[i]? =some (.bu bb own l)) (hc:Calls P g args w λr w'=>A r/\I0 w bb own l' w')
  (hk:∀r w' il,A r->LH M w0 w' (L.set i (.bu bb il l')) D->K r w') (jS:∀b∈bs,En.g b∈L:=by simp):fC bs P g args w K:=
 ⟨(·∈own),λb hb hm=>nU H hi (SJ w bb own l) (jS b hb) (aI.2 hm),hc.mono λr w' ⟨ha,h⟩=>by
  obtain ⟨_,_,f,_⟩:=id h
  obtain ⟨il,H',_⟩:=H.buG i hi h
  exact ⟨f,hk r w' il ha H'⟩⟩
end
theorem mY.nil (w:World):I0 w (w.heap.size+2) [] [] ((((w.alloc (.map #[] 0)).alloc (.map #[] 0)).alloc (.cells #[.slice none 0 0,.map (some w.heap.size),.map (some (w.heap.size+1))] g9))):=by
 have s1:(w.alloc (.map #[] 0)).heap.size=w.heap.size+1:=size_alloc _ _
 have s2:((w.alloc (.map #[] 0)).alloc (.map #[] 0)).heap.size=w.heap.size+2:=by rw [size_alloc,s1]
 have m1:(w.alloc (.map #[] 0)).heap[w.heap.size]? =some (.map #[] 0):=nj w _
 have m1':=(Fr.alloc F0 (w.alloc (.map #[] 0)) (.map #[] 0)).at m1 id
 have m2:=nj (w.alloc (.map #[] 0)) (.map #[] 0)
 rw [s1] at m2
 have f3:=Fr.alloc F0 ((w.alloc (.map #[] 0)).alloc (.map #[] 0)) (.cells #[.slice none 0 0,.map (some w.heap.size),.map (some (w.heap.size+1))] g9)
 have c:=nj ((w.alloc (.map #[] 0)).alloc (.map #[] 0)) (.cells #[.slice none 0 0,.map (some w.heap.size),.map (some (w.heap.size+1))] g9)
 rw [s2] at c
 have f:bF w (((w.alloc (.map #[] 0)).alloc (.map #[] 0)).alloc (.cells #[.slice none 0 0,.map (some w.heap.size),.map (some (w.heap.size+1))] g9)):=((Fr.alloc F0 w _).zM (Fr.alloc F0 _ _)).zM f3
 refine ⟨_,⟨⟨none,0,0⟩,w.heap.size,w.heap.size+1,#[],0,#[],0,rfl,?_,λe he=>?_,rfl,rfl⟩,f.Z6,λx hx=>?_⟩
 .show ([w.heap.size+2]++([]++([w.heap.size]++([w.heap.size+1]++[])))).Nodup
  simp
 .simp only [cU,qnM,or_false] at he
  rcases he with rfl|rfl|rfl|rfl
  .exact c
  .exact aO.nil _ _ _
  .exact f3.at m1' id
  .exact f3.at m2 id
 .have hx:x∈[w.heap.size+2]++([]++([w.heap.size]++([w.heap.size+1]++[]))):=hx
  simp at hx
  right
  omega
theorem ND {g:List Nx} (h:Vg g):∀i d,g[i]? =some d->d∉g.take i:=by
 induction h with
 |nil=>intro i d hd;simp at hd
 |@snoc g n hg hs hn ih=>
  intro i d hd
  rcases Nat.lt_or_ge i g.length with hi|hi
  .rw [List.getElem?_append_left hi] at hd
   rw [List.take_append_of_le_length (by omega)]
   exact ih i d hd
  .rw [List.getElem?_append_right hi] at hd
   have:i - g.length=0:=by
    have:=(List.getElem?_eq_some_iff.1 hd).1
    simp at this
    omega
   rw [this] at hd
   simp at hd
   subst hd
   rw [show i=g.length by omega,List.take_left]
   exact hn
theorem NG {g:List Nx} (h:Vg g) {i:Nat} {d:Nx} (hd:g[i]? =some d) (h0:d.op=0):rB (g.take i) d.tx=none:=by
 cases hv:rB (g.take i) d.tx with
 |none=>rfl
 |some s=>
  obtain ⟨e,he,e0,et,_⟩:=zQ hv
  obtain ⟨j,hj⟩:=List.mem_iff_getElem?.1 (KC he)
  have Fi:=h.vars e (KC he) e0 d (dC hd) h0 et
  have:=var_eq (h.sok j e hj) (h.sok i d hd) e0 h0 et Fi
  exact absurd (this▸he) (ND h i d hd)
theorem Ve {w:World} {s:Sl} {l:List Nd} (h:GP w s l) (hg:Vg (xs l)) (hW:∀d∈xs l,Ks d) (hl:l.length<=100000):
  Calls Tryz.prog ny #[.agg #[s.v]] w λr w'=>(∃bb own,r=.returned (.pointer (some (bD bb)))/\mY w' bb l own/\∀x∈own,w.heap.size<=x)/\bF w w':=by
 have hn:=qq h
 have H:LH F0 w w [] [.gr s l]:=mf _ (by
  intro e he
  simp only [cU,qnM,or_false] at he
  subst he
  exact cQ.2 h)
 have loop:∀(m i b1 bb:Nat) (own:List Nat) (w1:World),i+m=l.length->LH F0 w w1 [.g b1,.bu bb own (l.take i)] [.gr s l]->
   term_newBuilder.dY (bD bb) s ((s.n:Nat):Int) (i:Int) w1 λr w'=>(∃bb own,r=.returned (.pointer (some (bD bb)))/\mY w' bb l own/\∀x∈own,w.heap.size<=x)/\bF w w':=by
  intro m
  induction m with
  |zero=>
   intro i b1 bb own w1 hi H1
   refine term_newBuilder.aY _ _ _ _ _ _ (aM (decide_eq_false (by omega)) ⟨⟨bb,own,rfl,?_,λx hx=>(H1.new _ (dC (i:=1) rfl) x (aI.2 hx)).resolve_right id⟩,H1.fr⟩)
   have:=H1.get 1
   rw [List.take_of_length_le (by omega)] at this
   exact this
  |succ m ih=>
   intro i b1 bb own w1 hi H1
   have ga:l[i]? =some (l[i]'(by omega)):=g7 (by omega)
   generalize l[i]'(by omega)=d at ga
   refine term_newBuilder.aY _ _ _ _ _ _ (aS (decide_eq_true (by omega)) (jM (cQ.1 (H1.getD 0)) rfl ga λp hp c=>⟨d.x.op,d.ks,d.x.n,d.x.m,d.x.u,d.x.tx,d.x.st.k,d.x.st.n,d.x.st.x,c.c0,c.c1,c.c2,c.c3,c.c4,c.c5,c.c6,c.c7,c.c8,H1.bI λb5 w2 H2=>H2.aN λw3 H3=>?_⟩))
   have Aa:=dC ga
   have gx:=uz ga
   have et:xs (l.take i)=(xs l).take i:=by simp [xs,List.map_take]
   have es:l.take (i+1)=l.take i++[d]:=by rw [qtO,ga];rfl
   refine H3.buC 1 rfl (QK (l:=l.take i) (d:=d) (H3.get 1) ((cQ.1 (H3.getD 0)).2 d Aa) (λb hb hm=>H3.dj (.gr s l) (by simp) b (sF.2 (.inr ⟨d,Aa,hb⟩)) (.bu bb own (l.take i)) (by simp) (aI.2 hm)) (hW _ (List.mem_map.2 ⟨d,Aa,rfl⟩)) (λe he=>(hW e (by rw [et] at he;exact KC he)).u.1) (by rw [qlT];omega) (by rw [et];exact ND hg i d.x gx) (λh0=>by rw [et];exact NG hg gx h0)) ?_
   rintro _ w4 il rfl H4
   refine ⟨_,rfl,?_⟩
   rw [aZ _ (by omega)]
   refine ih (i+1) b1 bb il w4 (by omega) ?_
   rw [es]
   exact H4.take 2
 refine term_newBuilder.cT s w _ (H.bI λb1 w1 H1=>?_)
 obtain ⟨own,r,f,o⟩:=mY.nil w1
 have H2:=(H1.fresh (f.mono λx _ hx=>by cases hx)).own (.bu (w1.heap.size+2) own []) r (λb hb=>(o b (aI.1 hb)).resolve_left (by simp))
 have e2:((w1.alloc (.map #[] 0)).alloc (.map #[] 0)).heap.size=w1.heap.size+2:=by rw [size_alloc,size_alloc]
 have:=loop l.length 0 b1 (w1.heap.size+2) own _ (by omega) H2
 have s1:(w1.alloc (.map #[] 0)).heap.size=w1.heap.size+1:=size_alloc _ _
 rw [<-e2,<-s1] at this
 exact this
def xe:List Nx->List Nx->Int
 |_,[]=>0
 |g,n::r=>if (eU g n).2≠0 then (eU g n).2 else if (eU g n).1≠n.st then 9 else if n∈g then 8 else xe (g++[n]) r
theorem BC (g:List Nx) (n:Nx) (r:List Nx):xe g (n::r)=if (eU g n).2≠0 then (eU g n).2 else if (eU g n).1≠n.st then 9 else if n∈g then 8 else xe (g++[n]) r:=rfl
def xf (g:List Nx):Int:=if 4096<g.length then 4 else xe [] g
theorem LS {g:List Nx} {n:Nx}:(vc g n).2=decide (n∈g):=by
 unfold vc
 cases hi:mU n g 0 with
 |none=>exact (decide_eq_false (vn hi)).symm
 |some i=>exact (decide_eq_true (dC (sI hi).2)).symm
theorem CF {w:World} {s:Sl} {l:List Nd} (h:GP w s l) (hk:qc.P w) (hT:l.length<=4096->∀d∈l,Hj d.x/\Ks d.x):
  Calls Tryz.prog nv #[.agg #[s.v]] w λr w'=>r=.returned (.i (xf (xs l)))/\bF w w':=by
 have hn:=qq h
 have nN:(xs l).length=l.length:=by simp [xs]
 have H:LH F0 w w [] [.gr s l,qc]:=mf _ (by
  intro e he
  simp only [cU,qnM,or_false] at he
  rcases he with rfl|rfl
  .exact cQ.2 h
  .exact hk)
 refine term_Valid.cT s w _ (H.bI λb1 w1 H1=>aK (λGe=>⟨by unfold xf;rw [if_pos (by omega)],H1.fr⟩) (λGe=>?_))
 have hT:=hT (by omega)
 have TK:xf (xs l)=xe [] (xs l):=by unfold xf;rw [if_neg (by omega)]
 rw [TK]
 have loop:∀(m i b1 bb:Nat) (own:List Nat) (w1:World),i+m=l.length->Vg ((xs l).take i)->xe ((xs l).take i) ((xs l).drop i)=xe [] (xs l)->LH F0 w w1 [.g b1,.bu bb own (l.take i)] [.gr s l,qc]->
   term_Valid.dY (some (bD bb)) s ((s.n:Nat):Int) (i:Int) w1 λr w'=>r=.returned (.i (xe [] (xs l)))/\bF w w':=by
  intro m
  induction m with
  |zero=>
   intro i b1 bb own w1 hi hg hv H1
   refine term_Valid.aY _ _ _ _ _ _ (aM (decide_eq_false (by omega)) ⟨?_,H1.fr⟩)
   rw [<-hv,qdO (by omega)]
   rfl
  |succ m ih=>
   intro i b1 bb own w1 hi hg hv H1
   have ga:l[i]? =some (l[i]'(by omega)):=g7 (by omega)
   have hx:(xs l).drop i=(l[i]'(by omega)).x::(xs l).drop (i+1):=by
    rw [qdG (by omega:i<(xs l).length)]
    simp [xs]
   generalize l[i]'(by omega)=d at ga hx
   have Aa:=dC ga
   have gx:=uz ga
   have et:xs (l.take i)=(xs l).take i:=by simp [xs,List.map_take]
   have es:l.take (i+1)=l.take i++[d]:=by rw [qtO,ga];rfl
   have ex:(xs l).take (i+1)=(xs l).take i++[d.x]:=by rw [qtO,gx];rfl
   rw [hx,BC] at hv
   have hu:∀e∈xs (l.take i),0<=e.u:=λe he=>by
    obtain ⟨a,ha,rfl⟩:=List.mem_map.1 he
    exact (hT a (KC ha)).2.u.1
   refine term_Valid.aY _ _ _ _ _ _ (aS (decide_eq_true (by omega)) (jM (cQ.1 (H1.getD 0)) rfl ga λp hp c=>⟨d.x.op,d.ks,d.x.n,d.x.m,d.x.u,d.x.tx,d.x.st.k,d.x.st.n,d.x.st.x,c.c0,c.c1,c.c2,c.c3,c.c4,c.c5,c.c6,c.c7,c.c8,H1.bI λb5 w2 H2=>H2.aN λw3 H3=>?_⟩))
   refine H3.aL (K3 (l:=l.take i) (d:=d) (H3.get 1) (λe he=>(cQ.1 (H3.getD 0)).2 e (KC he)) ((cQ.1 (H3.getD 0)).2 d Aa) (H3.getD 1) (hT d Aa).1 (by rw [qlT];omega) (by rw [et];exact hg.val)) ?_
   rintro _ w4 rfl H4
   rw [et]
   refine ⟨_,_,_,_,rfl,H4.bI λb6 w5 H5=>eB (λh0=>H5.aN λw6 H6=>⟨by rw [<-hv,if_pos h0],H6.fr⟩) (λh0=>sU (a:=(eU ((xs l).take i) d.x).1) (b:=d.x.st) (λh1=>H5.aN λw6 H6=>⟨by rw [<-hv,if_neg (λh=>h h0),if_pos h1],H6.fr⟩) (λh1=>H5.aN λw6 H6=>?_))⟩
   rw [if_neg (λh=>h h0),if_neg (λh=>h h1)] at hv
   refine H6.aL (SE (l:=l.take i) (d:=d) (H6.get 1) ((cQ.1 (H6.getD 0)).2 d Aa) (hT d Aa).2 hu) ?_
   rintro _ w7 rfl H7
   refine ⟨_,_,rfl,?_⟩
   rw [LS,et]
   refine aK (λh2=>⟨by rw [<-hv,if_pos h2],H7.fr⟩) (λh2=>?_)
   rw [if_neg h2] at hv
   have lQ:Vg ((xs l).take (i+1)):=by
    rw [ex]
    exact .snoc hg (by rw [<-h1,<-h0]) h2
   have gt:((xs l).take (i+1))[i]? =some d.x:=by rw [List.getElem?_take,if_pos (by omega)];exact gx
   have htt:((xs l).take (i+1)).take i=(xs l).take i:=by rw [List.take_take];congr 1;omega
   refine H7.buC 1 rfl (QK (l:=l.take i) (d:=d) (H7.get 1) ((cQ.1 (H7.getD 0)).2 d Aa) (λb hb hm=>H7.dj (.gr s l) (by simp) b (sF.2 (.inr ⟨d,Aa,hb⟩)) (.bu bb own (l.take i)) (by simp) (aI.2 hm)) (hT d Aa).2 hu (by rw [qlT];omega) (by rw [et];exact h2) (λh0=>by rw [et,<-htt];exact NG lQ gt h0)) ?_
   rintro _ w8 il rfl H8
   refine ⟨_,rfl,?_⟩
   rw [aZ _ (by omega)]
   refine ih (i+1) b1 bb il w8 (by omega) lQ (by rw [ex];exact hv) ?_
   rw [es]
   exact H8.take 2
 refine H1.ss (Ve (s:=⟨none,0,0⟩) (l:=[]) ⟨jJ.nil 9 w1,by simp⟩ .nil (by simp [xs]) (by simp)) ?_
 rintro _ w2 ⟨bb,own,rfl,r,o⟩ _ F2
 have H2:=F2.own (.bu bb own []) r (λb hb=>o b (aI.1 hb))
 exact ⟨_,rfl,loop l.length 0 b1 bb own w2 (by omega) .nil rfl H2⟩
theorem B7 {w:World} {s:Sl} {l:List Nd} (h:GP w s l) (i:Nat) (hi:i<=l.length):GP w (uv 9 s 0 i) (l.take i):=by
 have hn:=qq h
 have h1:=h.1.sub 0 i (Nat.zero_le _) (by omega)
 refine ⟨?_,λd hd=>h.2 d (KC hd)⟩
 rw [Nat.zero_mul,List.drop_zero] at h1
 have:(l.take i).flatMap Nd.c=(l.flatMap Nd.c).take (i *9):=by
  have e:l.flatMap Nd.c=(l.take i).flatMap Nd.c++(l.drop i).flatMap Nd.c:=by rw [<-qfA,List.take_append_drop]
  have hl:((l.take i).flatMap Nd.c).length=i *9:=by rw [Nd.gH,qlT,Nat.min_eq_left hi]
  rw [e,<-hl,List.take_left]
 rw [this]
 exact h1
theorem Lh {w:World} {s:Sl} {l:List Nd} (h:GP w s l) (hT:l.length<=4096->∀d∈l,QD d.x) (hc:l.length<=1000000):
  Calls Tryz.prog jY #[s.v] w λr w'=>r=.returned (.i (xf (xs l)))/\bF w w':=by
 have hn:=qq h
 have nN:(xs l).length=l.length:=by simp [xs]
 have H:LH F0 w w [] [.gr s l]:=mf _ (by
  intro e he
  simp only [cU,qnM,or_false] at he
  subst he
  exact cQ.2 h)
 refine enthymemeref07_Valid.cT s w _ (aK (λGe=>⟨by unfold xf;rw [if_pos (by omega)],H.fr⟩) (λGe=>?_))
 have hT:=hT (by omega)
 have TK:xf (xs l)=xe [] (xs l):=by unfold xf;rw [if_neg (by omega)]
 rw [TK]
 have loop:∀(m i:Nat) (w1:World),i+m=l.length->Vg ((xs l).take i)->xe ((xs l).take i) ((xs l).drop i)=xe [] (xs l)->LH F0 w w1 [] [.gr s l]->
   enthymemeref07_Valid.dY s (i:Int) w1 λr w'=>r=.returned (.i (xe [] (xs l)))/\bF w w':=by
  intro m
  induction m with
  |zero=>
   intro i w1 hi hg hv H1
   refine enthymemeref07_Valid.aY _ _ _ _ (aM (decide_eq_false (by omega)) ⟨?_,H1.fr⟩)
   rw [<-hv,qdO (by omega)]
   rfl
  |succ m ih=>
   intro i w1 hi hg hv H1
   have ga:l[i]? =some (l[i]'(by omega)):=g7 (by omega)
   have hx:(xs l).drop i=(l[i]'(by omega)).x::(xs l).drop (i+1):=by
    rw [qdG (by omega:i<(xs l).length)]
    simp [xs]
   generalize l[i]'(by omega)=d at ga hx
   have Aa:=dC ga
   have gx:=uz ga
   have et:xs (l.take i)=(xs l).take i:=by simp [xs,List.map_take]
   have ex:(xs l).take (i+1)=(xs l).take i++[d.x]:=by rw [qtO,gx];rfl
   have Mb:s.n<=s.c:=h.1.2.1
   rw [hx,BC] at hv
   have Ty:U4 (xs (l.take i)):=⟨by rw [et,qlT];unfold m9;omega,by rw [et];exact hg.val,by rw [et];exact hg.vars⟩
   have S1:∀(b:Nat) (w2:World),LH F0 w w2 [.g b] [.gr s l]->enthymemeref07_Valid.fY s (i:Int) b (eU ((xs l).take i) d.x).1.k (eU ((xs l).take i) d.x).1.n (eU ((xs l).take i) d.x).1.x (eU ((xs l).take i) d.x).2 w2 λr w'=>r=.returned (.i (xe [] (xs l)))/\bF w w':=by
    intro b w2 H2
    refine eB (λh0=>⟨by rw [<-hv,if_pos h0],H2.fr⟩) (λh0=>jM (cQ.1 (H2.getD 0)) rfl ga λp hp _=>H2.aN λw3 H3=>?_)
    have c:=pJ (cQ.1 (H3.getD 0)) ga hp (X:=(i:Int)) rfl
    refine ⟨d.x.st.k,d.x.st.n,d.x.st.x,c.s0,c.s1,c.s2,sU (a:=(eU ((xs l).take i) d.x).1) (b:=d.x.st) (λh1=>⟨by rw [<-hv,if_neg (λh=>h h0),if_pos h1],H3.fr⟩) (λh1=>⟨by omega,by omega,jM (cQ.1 (H3.getD 0)) rfl ga λq hq _=>H3.aN λw4 H4=>?_⟩)⟩
    rw [if_neg (λh=>h h0),if_neg (λh=>h h1)] at hv
    have c:=pJ (cQ.1 (H4.getD 0)) ga hq (X:=(i:Int)) rfl
    refine ⟨d.x.op,d.ks,d.x.n,d.x.m,d.x.u,d.x.tx,d.x.st.k,d.x.st.n,d.x.st.x,c.c0,c.c1,c.c2,c.c3,c.c4,c.c5,c.c6,c.c7,c.c8,?_⟩
    have q:=Ho (B7 (cQ.1 (H4.getD 0)) i (by omega)) ((cQ.1 (H4.getD 0)).2 d Aa) Ty (hT d Aa) (λe he=>(hT e (KC he)).kl)
    rw [et,show pL ((xs l).take i) d.x=mU d.x ((xs l).take i) 0 by
     unfold pL
     rw [if_pos h0,h1]
     rfl] at q
    refine H4.aL q ?_
    rintro _ w5 rfl H5
    refine ⟨_,rfl,?_⟩
    cases Cb:mU d.x ((xs l).take i) 0 with
    |some k=>
     have hm:=dC (sI Cb).2
     exact aS (decide_eq_true (Int.natCast_nonneg k)) ⟨by rw [<-hv,if_pos hm],H5.fr⟩
    |none=>
     have h2:=vn Cb
     rw [if_neg h2] at hv
     refine aM (by decide) ?_
     rw [aZ _ (by omega)]
     exact ih (i+1) w5 (by omega) (by rw [ex];exact .snoc hg (by rw [<-h1,<-h0]) h2) (by rw [ex];exact hv) (H5.take 0)
   refine enthymemeref07_Valid.aY _ _ _ _ (aS (decide_eq_true (by omega)) (H1.dr λw2 H2=>⟨by omega,by omega,jM (cQ.1 (H2.getD 0)) rfl ga λp hp c=>⟨d.x.op,d.ks,d.x.n,d.x.m,d.x.u,d.x.tx,d.x.st.k,d.x.st.n,d.x.st.x,c.c0,c.c1,c.c2,c.c3,c.c4,c.c5,c.c6,c.c7,c.c8,?_,?_⟩⟩))
   .have q:=uM (B7 (cQ.1 (H2.getD 0)) i (by omega)) ((cQ.1 (H2.getD 0)).2 d Aa) Ty (hT d Aa)
    rw [et] at q
    refine H2.call q ?_
    rintro _ w3 rfl H3
    exact ⟨_,_,_,_,rfl,H3.bI λb w4 H4=>H4.aN λw5 H5=>S1 b w5 H5⟩
   .refine H2.bI λb w3 H3=>?_
    have c:=pJ (cQ.1 (H3.getD 0)) ga hp (X:=(i:Int)) rfl
    refine ⟨c.c0,c.c1,c.c2,c.c3,c.c4,c.c5,c.c6,c.c7,c.c8,?_⟩
    have q:=uM (B7 (cQ.1 (H3.getD 0)) i (by omega)) ((cQ.1 (H3.getD 0)).2 d Aa) Ty (hT d Aa)
    rw [et] at q
    refine H3.aL q ?_
    rintro _ w4 rfl H4
    exact ⟨_,_,_,_,rfl,H4.aN λw5 H5=>S1 b w5 H5⟩
 exact loop l.length 0 w (by omega) .nil rfl H
def _root_.Go.W.En.wr (wb:Nat) (bs:List UInt8) (own:List Nat):En:=⟨Gy own,λw=>jk w wb bs own,λw w' h hp=>(by
 obtain ⟨s,rfl,h1,h2⟩:=hp
 have hk:∀b∈wb::bA s,w'.heap[b]? =w.heap[b]?:=λb hb=>h b (aI.2 hb) (jk.lt ⟨s,rfl,h1,h2⟩ b hb)
 exact ⟨s,rfl,(hk wb (by simp)).trans h1,h2.1,h2.2.gV λb hb _=>hk b (by simp [hb])⟩),λw hp b hb=>hp.lt b (aI.1 hb),lK _⟩
theorem Uy (wb:Nat) (bs:List UInt8) (own:List Nat) (w:World) (b:Nat):¬(En.wr wb bs own).P ({w with heap:=Array.replicate (b+1) (.map #[] 0)}):=by
 rintro ⟨s,_,h1,_⟩
 simp [Array.getElem?_replicate] at h1
section
variable {M:Nat->Prop} {w0 w:World} {L D:List En} {bs:List Nat}
theorem _root_.Go.W.LH.wm (H:LH M w0 w L D) (i:Nat) {wb:Nat} {l l':List UInt8} {own:List Nat} {g:FuncId} {args:Array Value} {K:aD} (hi:L[i]? =some (.wr wb l own)) (hc:jk w wb l own->Calls Tryz.prog g args w (sg w wb own l'))
  (hk:∀w' il,LH M w0 w' (L.set i (.wr wb l' il)) D->K (.returned (.tuple #[])) w') (jS:∀b∈bs,En.g b∈L:=by simp):fC bs Tryz.prog g args w K:=by
 refine ⟨(·∈own),λb hb hm=>?_,(hc (H.get i hi)).mono λr w' ⟨hr,il,r',f,o⟩=>⟨f,?_⟩⟩
 .exact nU H hi (Uy wb l own w) (jS b hb) (aI.2 hm)
 .subst hr
  refine hk w' il (H.CK i (.wr wb l' il) hi (f.mono λx _ hx=>aI.2 hx) r' λb hb=>?_)
  exact (o b (aI.1 hb)).imp aI.2 id
theorem _root_.Go.W.LH.Wz (H:LH M w0 w L D) {K:World->Prop} (hk:∀w',LH M w0 w' (L++[.wr w.heap.size [] [w.heap.size]]) D->K w'):eV w (.cells #[.slice none 0 0] gn) K:=
 hk _ (H.push _ (Fr.alloc _ _ _) (jk.new w) λb hb=>by have:=aI.1 hb;simp at this;omega)
end
def VD (g:List Nx):List UInt8:=q0 g.length++g.flatMap lS
theorem Bm {z:Nat}:∀{g:List Nx},(∀d∈g,(lS d).length<=z)->(g.flatMap lS).length<=z *g.length
 |[],_=>by simp
 |d::g,h=>by
  have h1:=Bm (g:=g) λe he=>h e (by simp [he])
  have h2:=h d (by simp)
  simp only [qfC,qlA,List.length_cons]
  rw [Nat.mul_add,Nat.mul_one]
  omega
def U3 (g:List Nx) (w:World) (r:Ending) (w':World):Prop:=∃t:Sl,r=.returned (.tuple #[t.v,.i (xf g)])/\(xf g=0->mZ w' t (VD g)/\∀b∈bA t,w.heap.size<=b)
theorem EX {w:World} {s:Sl} {l:List Nd} (h:GP w s l) (hk:qc.P w) (hT:l.length<=4096->∀d∈l,Hj d.x/\Ks d.x) (hz:∀d∈xs l,(lS d).length<=1000000):
  Calls Tryz.prog oa #[.agg #[s.v]] w λr w'=>U3 (xs l) w r w'/\bF w w':=by
 have hn:=qq h
 have nN:(xs l).length=l.length:=by simp [xs]
 have H:LH F0 w w [] [.gr s l,qc]:=mf _ (by
  intro e he
  simp only [cU,qnM,or_false] at he
  rcases he with rfl|rfl
  .exact cQ.2 h
  .exact hk)
 refine term_Encode.cT s w _ (H.bI λb1 w1 H1=>H1.aL (CF (cQ.1 (H1.getD 0)) (H1.getD 1) hT) ?_)
 rintro _ w2 rfl H2
 refine ⟨_,rfl,eB (λh0=>⟨⟨⟨none,0,0⟩,rfl,λh=>absurd h h0⟩,H2.fr⟩) (λh0=>H2.Wz λw3 H3=>?_)⟩
 have hle:l.length<=4096:=by
  rcases Nat.lt_or_ge 4096 l.length with h|h
  .unfold xf at h0
   rw [if_pos (by omega)] at h0
   cases h0
  .exact h
 have hT:=hT hle
 have hzl:∀i,(((xs l).take i).flatMap lS).length<=4096000000:=λi=>by
  have:=Bm (g:=(xs l).take i) λd hd=>hz d (KC hd)
  rw [qlT] at this
  have h2:min i (xs l).length<=4096:=by omega
  omega
 have hi:nO ((s.n:Nat):Int):=⟨by omega,by omega⟩
 have he:=fN _ hi
 rw [hn] at he
 refine H3.wm 1 rfl (λr=>xL r _ hi (by simp)) λw4 own H4=>?_
 have H4:LH F0 w w4 [.g b1,.wr w2.heap.size (q0 ((l.length:Nat):Int)++((xs l).take 0).flatMap lS) own] [.gr s l,qc]:=by
  rw [List.take_zero,List.flatMap_nil,List.append_nil,<-hn]
  exact H4
 have loop:∀(m i:Nat) (own:List Nat) (w5:World),i+m=l.length->LH F0 w w5 [.g b1,.wr w2.heap.size (q0 ((l.length:Nat):Int)++((xs l).take i).flatMap lS) own] [.gr s l,qc]->
   term_Encode.dY b1 s (bD w2.heap.size) ((s.n:Nat):Int) (i:Int) w5 λr w'=>U3 (xs l) w r w'/\bF w w':=by
  intro m
  induction m with
  |zero=>
   intro i own w5 hi5 H5
   refine term_Encode.aY _ _ _ _ _ _ _ (aM (decide_eq_false (by omega)) ?_)
   have rep:jk w5 w2.heap.size (q0 ((l.length:Nat):Int)++((xs l).take i).flatMap lS) own:=H5.get 1
   refine nS ((NH rep (by have:=hzl i;simp only [qlA];omega)).mono ?_)
   rintro _ w6 ⟨t,rfl,ht,f6,hf⟩
   rw [List.take_of_length_le (by omega)] at ht
   refine ⟨f6,t,rfl,⟨t,by rw [h0],λ_=>⟨?_,λb hb=>Nat.le_trans H5.fr.size (hf b hb)⟩⟩,H5.fr.zM f6⟩
   unfold VD
   rw [nN]
   exact ht
  |succ m ih=>
   intro i own w5 hi5 H5
   have ga:l[i]? =some (l[i]'(by omega)):=g7 (by omega)
   generalize l[i]'(by omega)=d at ga
   have Aa:=dC ga
   have gx:=uz ga
   have ex:(xs l).take (i+1)=(xs l).take i++[d.x]:=by rw [qtO,gx];rfl
   refine term_Encode.aY _ _ _ _ _ _ _ (aS (decide_eq_true (by omega)) (Ma (cQ.1 (H5.getD 0)) ga rfl λp hp c=>?_))
   have CQ:∀b,b∈(En.gr s l).fp->b∉own:=λb hb hm=>H5.dj (.gr s l) (by simp) b hb _ (dC (i:=1) rfl) (aI.2 hm)
   have hpb:(p.add (Int.toNat (i:Int) *9)).block∈(En.gr s l).fp:=by
    refine sF.2 (.inl ?_)
    show _∈(if l.flatMap Nd.c=[] then [] else bA s)
    rw [if_neg (λe=>by have:=congrArg List.length e;rw [Nd.gH] at this;simp at this;omega)]
    simp [bA,hp,gp]
   refine H5.wm 1 rfl (λr=>IU r c ((cQ.1 (H5.getD 0)).2 d Aa) (CQ _ hpb) (λx hx=>CQ x (sF.2 (.inr ⟨d,Aa,hx⟩))) (hT d Aa).2 (by have:=hzl i;simp only [qlA];omega)) λw6 il H6=>⟨rfl,?_⟩
   rw [aZ _ (by omega)]
   refine ih (i+1) il w6 (by omega) ?_
   rw [ex,qfA,<-qaA,qfC,List.flatMap_nil,List.append_nil]
   exact H6
 exact ⟨rfl,loop l.length 0 own w4 (by omega) H4⟩
theorem Qe {w:World} {s:Sl} {l:List Nd} (h:GP w s l) (hk:qc.P w) (hT:l.length<=4096->∀d∈l,Hj d.x/\Ks d.x) (hz:∀d∈xs l,(lS d).length<=1000000) (hv:xf (xs l)≠0):
  Calls Tryz.prog sN #[.agg #[s.v]] w λr w'=>r=.returned (.u 0)/\bF w w':=by
 have H:LH F0 w w [] [.gr s l,qc]:=mf _ (by
  intro e he
  simp only [cU,qnM,or_false] at he
  rcases he with rfl|rfl
  .exact cQ.2 h
  .exact hk)
 refine term_Hash.cT s w _ (H.bI λb1 w1 H1=>H1.aL (EX (cQ.1 (H1.getD 0)) (H1.getD 1) hT hz) ?_)
 rintro _ w2 ⟨t,rfl,_⟩ H2
 exact ⟨_,_,rfl,eB (λ_=>⟨rfl,H2.fr⟩) (λh0=>absurd h0 hv)⟩
theorem Eo {n:Nx} (W:Ks n) (hk:n.kids.length<=100) (ht:n.tx.size<=1000):(lS n).length<=1000000:=by
 have h1:=fN _ W.op
 have h2:=ve _ W.ks
 have h3:=fN _ W.n
 have h4:=fN _ W.m
 have h5:=gJ n.u.toNat (by have:=W.u;omega)
 have h6:=fN _ W.sk
 have h7:=fN _ W.sn
 have h8:=fN _ W.sx
 have h9:=gJ n.kids.length (by omega)
 have h0:=gJ (bl n.tx).length (by rw [hV];omega)
 have k3:=hV n.tx
 unfold lS yM B0
 simp only [qlA]
 omega
end Go.Proofs.YtcifihepfadgfaaGreatDoor
